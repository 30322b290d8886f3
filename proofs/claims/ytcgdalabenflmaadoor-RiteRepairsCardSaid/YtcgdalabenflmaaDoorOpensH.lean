/- Rite, the reference: a set as a number, and back. -/
import Derived.Test.YtcgdalabenflmaaDoorOpensG
set_option linter.unusedSimpArgs false
set_option linter.unusedVariables false
set_option linter.unnecessarySimpa false
namespace Go.Proofs.YtcgdalabenflmaaDoor
open Go Go.RowKit Go.Shelf
set_option maxHeartbeats 8000000
set_option maxRecDepth 100000
theorem results1c {P : Program} {fn : Func} {p : Tmp} {ty : TypeId} (h : fn.results = #[.cell p ty]) {tmps : Array Value} {w : World} {g : Nat} {t : TypeId} {cs : Array Value} {n : Nat} {e : TypeId}
    (hp : tmps.getD p undef = .pointer (some ⟨g, 0, none⟩)) (hg : Blk w g t cs) (hu : P.underlying ty = some (.array n e)) (hi : (P.info? ty).map (·.size) = some cs.size) :
    (results fn tmps).run P w = .ok (.agg cs) w := by
  have hl := run_loadVar_row (P := P) w g t ty cs _ _ hg hu rfl hi
  simp only [results, h]
  simp only [Array.getD_eq_getD_getElem?] at hp
  simp [Sem.run_bind, Result.andThen, asAddr, hp, hl]
theorem half_bit (D j : Nat) : D / 2 ^ j = 2 * (D / 2 ^ (j + 1)) + if D.testBit j then 1 else 0 := by
  rw [Nat.pow_succ, ← Nat.div_div_eq_div_mul]
  have h : D.testBit j = decide (D / 2 ^ j % 2 = 1) := by rw [Nat.testBit_eq_decide_div_mod_eq]
  rw [h]
  by_cases h2 : D / 2 ^ j % 2 = 1
  · rw [decide_eq_true h2, if_pos rfl]; omega
  · rw [decide_eq_false h2, if_neg (by decide)]; omega
theorem number_any (D : Nat) (w : World) (hD : D < 1024) : Calls Tryd.prog 47 #[.agg #[.bool (dB D 0), .bool (dB D 1), .bool (dB D 2), .bool (dB D 3), .bool (dB D 4), .bool (dB D 5), .bool (dB D 6), .bool (dB D 7), .bool (dB D 8), .bool (dB D 9)]] w fun e w' => e = .returned (.int .i64 (D : Nat)) ∧ Below w.heap.size w w' := by
  have HB : Hid (Below w.heap.size w (w.alloc (.cells #[.bool (dB D 0), .bool (dB D 1), .bool (dB D 2), .bool (dB D 3), .bool (dB D 4), .bool (dB D 5), .bool (dB D 6), .bool (dB D 7), .bool (dB D 8), .bool (dB D 9)] 37))) := hide ((Below.refl _ _).alloc (Nat.le_refl _) _)
  have KE := hide (Blk.new w 37 #[.bool (dB D 0), .bool (dB D 1), .bool (dB D 2), .bool (dB D 3), .bool (dB D 4), .bool (dB D 5), .bool (dB D 6), .bool (dB D 7), .bool (dB D 8), .bool (dB D 9)])
  obtain ⟨G, hG⟩ : ∃ x, w.heap.size = x := ⟨_, rfl⟩
  rw [hG] at KE
  have HHB : Hid (∀ j, D / 2 ^ j = 2 * (D / 2 ^ (j + 1)) + if dB D j then 1 else 0) := hide fun j => half_bit D j
  have hz : D / 2 ^ 10 = 0 := Nat.div_eq_of_lt hD
  have HLT : Hid (∀ j, D / 2 ^ j < 1024) := hide fun j => Nat.lt_of_le_of_lt (Nat.div_le_self _ _) hD
  obtain ⟨f, hf⟩ : ∃ f : Nat → Nat, (fun j => D / 2 ^ j) = f := ⟨_, rfl⟩
  have HF0 : Hid (f 0 = D) := hide (by rw [← hf]; simp)
  have hf10 : f 10 = 0 := by rw [← hf]; exact hz
  have HFS : Hid (∀ j, f j = 2 * f (j + 1) + if dB D j then 1 else 0) := hide fun j => by rw [← hf]; exact HHB.out j
  have HFL : Hid (∀ j, f j < 1024) := hide fun j => by rw [← hf]; exact HLT.out j
  clear hz HHB HLT hD hf
  go_enter Tryd.func47, Tryd.ntmps47
  go_upto_region 1 with fail
  (try rw [hG])
  generalize w.alloc (.cells #[.bool (dB D 0), .bool (dB D 1), .bool (dB D 2), .bool (dB D 3), .bool (dB D 4), .bool (dB D 5), .bool (dB D 6), .bool (dB D 7), .bool (dB D 8), .bool (dB D 9)] 37) = w1 at HB KE ⊢
  clear hG
  go_wp2_with fail
  go_loopw [3, 4] (fun x i wr => ∃ k : Nat, k ≤ 10 ∧ i = .int .i64 ((k : Int) - 1) ∧ x = .int .i64 (f k : Nat) ∧ Hid (w1 = wr)) (fun _ i _ => (intOf i + 1).toNat)
  case atStart => exact ⟨10, Nat.le_refl _, rfl, by rw [hf10]; rfl, hide rfl⟩
  case round =>
    obtain ⟨k, hk, rfl, rfl, HW⟩ := hrel
    obtain rfl := HW.out
    cases k with
    | zero =>
      have e0 := HF0.out
      have hm1 : ((0 : Nat) : Int) - 1 = -1 := rfl
      rw [hm1, e0]
      clear hm1
      go_wp2_with fail
      go_ret
      exact ⟨rfl, HB.out⟩
    | succ j =>
      have hm1 : ((j + 1 : Nat) : Int) - 1 = (j : Int) := by omega
      rw [hm1]
      clear hm1
      have hj : j < 10 := by omega
      have hj' : (j : Int) < 10 := by omega
      have q0 := dn_cell KE.out hj
      have hfl := HFL.out (j + 1)
      have hs := HFS.out j
      obtain ⟨y, hy⟩ : ∃ y, f (j + 1) = y := ⟨_, rfl⟩
      rw [hy] at hs hfl ⊢
      have hw1 : IntKind.i64.wrap (2 * (y : Int)) = 2 * (y : Int) := by rw [IntWalk.i64_in _ (by omega)]
      have hw2 : IntKind.i64.wrap (2 * (y : Int) + 1) = 2 * (y : Int) + 1 := by rw [IntWalk.i64_in _ (by omega)]
      have hw3 : IntKind.i64.wrap ((j : Int) - 1) = (j : Int) - 1 := by rw [IntWalk.i64_in _ (by omega)]
      have HSX := hide hs
      have hj0 : (0 : Int) ≤ (j : Int) := by omega
      clear hs hy
      rcases hb : dB D j with _ | _
      · rw [hb] at q0 HSX
        clear hb
        go_wp2_with fail
        go_roundw
        case rel => exact ⟨j, by omega, rfl, by rw [HSX.out]; simp, trivial⟩
        case measure => simp [intOf]
      · rw [hb] at q0 HSX
        clear hb
        go_wp2_with fail
        go_roundw
        case rel => exact ⟨j, by omega, rfl, by rw [HSX.out]; simp, trivial⟩
        case measure => simp [intOf]
/-- what lies while a set is written out -/
structure BkI (w W : World) (R T : Nat) (D : Nat) : Prop where
  lo : Below w.heap.size w W
  kR : Blk W R 37 #[.bool false, .bool false, .bool false, .bool false, .bool false, .bool false, .bool false, .bool false, .bool false, .bool false]
  kT : Blk W T 37 #[.bool (dB D 0), .bool (dB D 1), .bool (dB D 2), .bool (dB D 3), .bool (dB D 4), .bool (dB D 5), .bool (dB D 6), .bool (dB D 7), .bool (dB D 8), .bool (dB D 9)]
  ne : R ≠ T
  hT : w.heap.size ≤ T
  hR : w.heap.size ≤ R
theorem dn_upd2 {X Y a : Nat} {b : Bool} (ha : a < 10) (h : ∀ j, j < 10 → dB Y j = if j = a then b else dB X j) : (#[.bool (dB X 0), .bool (dB X 1), .bool (dB X 2), .bool (dB X 3), .bool (dB X 4), .bool (dB X 5), .bool (dB X 6), .bool (dB X 7), .bool (dB X 8), .bool (dB X 9)] : Array Value).setIfInBounds a (.bool b) = #[.bool (dB Y 0), .bool (dB Y 1), .bool (dB Y 2), .bool (dB Y 3), .bool (dB Y 4), .bool (dB Y 5), .bool (dB Y 6), .bool (dB Y 7), .bool (dB Y 8), .bool (dB Y 9)] := by
  rw [h 0 (by omega), h 1 (by omega), h 2 (by omega), h 3 (by omega), h 4 (by omega), h 5 (by omega), h 6 (by omega), h 7 (by omega), h 8 (by omega), h 9 (by omega)]
  rcases (by omega : a = 0 ∨ a = 1 ∨ a = 2 ∨ a = 3 ∨ a = 4 ∨ a = 5 ∨ a = 6 ∨ a = 7 ∨ a = 8 ∨ a = 9) with rfl | rfl | rfl | rfl | rfl | rfl | rfl | rfl | rfl | rfl <;> simp
theorem BkI.put {w W : World} {R T : Nat} {D : Nat} (h : BkI w W R T D) {a : Nat} {b : Bool} (ha : a < 10) {Y : Nat} (hY : ∀ j, j < 10 → dB Y j = if j = a then b else dB D j) : BkI w (W.setCell ⟨T, a, none⟩ (.bool b)) R T Y :=
  ⟨h.lo.setCell (p := ⟨T, a, none⟩) h.hT _, h.kR.far (p := ⟨T, a, none⟩) h.ne _, by rw [← dn_upd2 ha hY]; exact h.kT.set_ a _, h.ne, h.hT, h.hR⟩
theorem bk_boxes (w : World) : ∃ w1, w.alloc (.cells #[.bool false, .bool false, .bool false, .bool false, .bool false, .bool false, .bool false, .bool false, .bool false, .bool false] 37) = w1 ∧ ∃ w3, (Instr.storeAt 37 (.pointer (some ⟨w1.heap.size, 0, none⟩)) (.agg #[.bool false, .bool false, .bool false, .bool false, .bool false, .bool false, .bool false, .bool false, .bool false, .bool false])).run Tryd.prog (w1.alloc (.cells #[.bool false, .bool false, .bool false, .bool false, .bool false, .bool false, .bool false, .bool false, .bool false, .bool false] 37)) = .ok () w3 ∧ BkI w w3 w.heap.size w1.heap.size 0 := by
  obtain ⟨w1, hw1⟩ : ∃ x, w.alloc (.cells #[.bool false, .bool false, .bool false, .bool false, .bool false, .bool false, .bool false, .bool false, .bool false, .bool false] 37) = x := ⟨_, rfl⟩
  have hb1 : Below w.heap.size w w1 := by rw [← hw1]; exact (Below.refl _ _).alloc (Nat.le_refl _) _
  have k1 : Blk w1 w.heap.size 37 #[.bool false, .bool false, .bool false, .bool false, .bool false, .bool false, .bool false, .bool false, .bool false, .bool false] := by rw [← hw1]; exact Blk.new w _ _
  have hs1 : w1.heap.size = w.heap.size + 1 := by rw [← hw1]; simp
  refine ⟨w1, hw1, ?_⟩
  have hb2 : Below w1.heap.size w1 (w1.alloc (.cells #[.bool false, .bool false, .bool false, .bool false, .bool false, .bool false, .bool false, .bool false, .bool false, .bool false] 37)) := (Below.refl _ _).alloc (Nat.le_refl _) _
  obtain ⟨w3, hrun, hK, hB, -⟩ := store_blk (P := Tryd.prog) (ty := 37) (cells := #[.bool false, .bool false, .bool false, .bool false, .bool false, .bool false, .bool false, .bool false, .bool false, .bool false]) (Blk.new w1 37 #[.bool false, .bool false, .bool false, .bool false, .bool false, .bool false, .bool false, .bool false, .bool false, .bool false]) rfl (by kernel_rfl) (by simp [Value.oneCell'])
  have hb3 := hB _ _ hb2 (Nat.le_refl _)
  exact ⟨w3, hrun, hb1.trans (hb3.mono (by omega)), k1.ext hb3, hK, by omega, by omega, Nat.le_refl _⟩
theorem back_any (n : Nat) (w : World) (hn : n < 1024) : Calls Tryd.prog 46 #[.int .i64 (n : Nat)] w fun e w' => e = .returned (.agg #[.bool (dB n 0), .bool (dB n 1), .bool (dB n 2), .bool (dB n 3), .bool (dB n 4), .bool (dB n 5), .bool (dB n 6), .bool (dB n 7), .bool (dB n 8), .bool (dB n 9)]) ∧ Below w.heap.size w w' := by
  obtain ⟨w1, hw1, w3, hw3, hf⟩ := bk_boxes w
  have HI := hide hf
  have HRUN := hide hw3
  have hfl : ∀ j, n / 2 ^ j < 1024 := fun j => Nat.lt_of_le_of_lt (Nat.div_le_self _ _) hn
  obtain ⟨f, hfe⟩ : ∃ f : Nat → Nat, (fun j => n / 2 ^ j) = f := ⟨_, rfl⟩
  have HF0 : Hid (f 0 = n) := hide (by rw [← hfe]; simp)
  have HFS : Hid (∀ j, f (j + 1) = f j / 2) := hide fun j => by rw [← hfe]; dsimp only; rw [Nat.pow_succ, Nat.div_div_eq_div_mul]
  have HFB : Hid (∀ j, dB n j = decide (f j % 2 = 1)) := hide fun j => by rw [← hfe]; unfold dB; rw [Nat.testBit_eq_decide_div_mod_eq]
  have HFL : Hid (∀ j, f j < 1024) := hide fun j => by rw [← hfe]; exact hfl j
  have HNS : Hid (mkS (dB n) 10 = n) := hide (mkS_self (n := 10) hn)
  clear hfl hfe hf hw3
  go_enter Tryd.func46, Tryd.ntmps46
  go_upto_region 1 with fail
  (try rw [hw1])
  clear hw1
  obtain ⟨R, hR⟩ : ∃ x, w.heap.size = x := ⟨_, rfl⟩
  obtain ⟨T, hT⟩ : ∃ x, w1.heap.size = x := ⟨_, rfl⟩
  rw [hT, hR] at HI
  rw [hT] at HRUN
  (try rw [hR])
  clear hR
  have e0 := HF0.out
  rw [← e0]
  clear e0
  go_wp2_with (refine wpList_store_run rfl 37 (.tmp 3) (.tmp 5) rfl rfl rfl HRUN.out ?_)
  clear hT HRUN
  go_loopw [0, 4] (fun x i wr => ∃ k : Nat, k ≤ 10 ∧ i = .int .i64 k ∧ x = .int .i64 (f k : Nat) ∧ Hid (BkI w wr R T (mkS (dB n) k))) (fun _ i _ => 10 - (intOf i).toNat)
  case atStart => exact ⟨0, Nat.zero_le _, rfl, rfl, HI⟩
  case round =>
    obtain ⟨k, hk, rfl, rfl, HI⟩ := hrel
    have hst : IntKind.i64.wrap ((k : Int) + 1) = ((k + 1 : Nat) : Int) := by rw [IntWalk.i64_in _ (by omega)]; omega
    by_cases hlt : k < 10
    · have hlt' : (k : Int) < 10 := by omega
      have q1 := HI.out.kT.frozen k
      have q0 := dn_cell HI.out.kT hlt
      have hb := HFB.out k
      have hs := HFS.out k
      have hl := HFL.out k
      generalize f k = y at hb hs hl ⊢
      have HI2 := hide (HI.out.put (b := dB n k) (Y := mkS (dB n) (k + 1)) hlt (fun j hj => by
        unfold dB
        rw [mkS_bit, mkS_bit]
        by_cases h : j = k
        · subst h; rw [if_pos rfl, decide_eq_true (show j < j + 1 by omega)]; rfl
        · rw [if_neg h]
          by_cases h2 : j < k
          · rw [decide_eq_true h2, decide_eq_true (show j < k + 1 by omega)]
          · rw [decide_eq_false h2, decide_eq_false (show ¬ j < k + 1 by omega)]))
      rw [show dB n k = ((y : Int) % 2 == 1) by rw [hb, Bool.eq_iff_iff]; simp; omega] at HI2
      have HSY := hide hs
      clear hb hs
      go_wp2_with fail
      go_roundw
      case rel => exact ⟨k + 1, by omega, by go_num, by rw [HSY.out]; congr 1, HI2⟩
      case measure => simp [intOf]; omega
    · obtain rfl : k = 10 := by omega
      rw [HNS.out] at HI
      obtain ⟨wz, hrz, hkz, hbz, -⟩ := store_blk (P := Tryd.prog) (ty := 37) (cells := #[.bool (dB n 0), .bool (dB n 1), .bool (dB n 2), .bool (dB n 3), .bool (dB n 4), .bool (dB n 5), .bool (dB n 6), .bool (dB n 7), .bool (dB n 8), .bool (dB n 9)]) HI.out.kR rfl (by kernel_rfl) (by simp [Value.oneCell'])
      have HLZ := hide (hbz _ _ HI.out.lo HI.out.hR)
      have HRZ := hide hrz
      have HKZ := hide hkz
      obtain ⟨x0, x1, x2, x3, x4, x5, x6, x7, x8, x9⟩ := bx10 HI.out.kT
      clear hrz hkz hbz hst hlt hk
      go_wp2_with (refine wpList_store_run rfl 37 (.tmp 2) (.tmp 17) rfl rfl rfl HRZ.out ?_)
      (try simp only [Exit.inBlock, Exit.then])
      refine bodyPost_ret (results1c rfl rfl HKZ.out Tryd.underlying37 (by kernel_rfl)) rfl ?_
      exact ⟨rfl, HLZ.out⟩
end Go.Proofs.YtcgdalabenflmaaDoor
/- Rite, plain: a deed more; what is open, forgotten, hopeless. -/
namespace Go.Proofs.YtcgdalabenflmaaDoor
open Go Go.RowKit
set_option maxRecDepth 100000
theorem fol_step {r : Rit} {m : Mom} {y : Int × Int} (l : List (Int × Int)) (i : Nat) (h1 : ¬ (y.1 < m.day ∨ r.last < y.1)) (h2 : ¬ brF r (m.on y.1).d (m.on y.1).day (m.on y.1).de y.2 ≠ 0) : folF r m (y :: l) i = folF r ((m.on y.1).wi y.2.toNat) l (i + 1) := by
  show (if _ then _ else if _ then _ else _) = _
  rw [if_neg h1, if_neg h2]
theorem fol_zero {r : Rit} {m : Mom} {y : Int × Int} {l : List (Int × Int)} {i : Nat} (h : (folF r m (y :: l) i).2.2 = 0) : ¬ (y.1 < m.day ∨ r.last < y.1) ∧ ¬ brF r (m.on y.1).d (m.on y.1).day (m.on y.1).de y.2 ≠ 0 := by
  unfold folF at h
  split at h
  · cases h
  · rename_i h1
    split at h
    · rename_i h2; exact absurd h h2
    · rename_i h2; exact ⟨h1, h2⟩
theorem fol_append {r : Rit} (x : List (Int × Int)) : ∀ (l : List (Int × Int)) (m : Mom) (i : Nat), (folF r m l i).2.2 = 0 → folF r m (l ++ x) i = folF r (folF r m l i).1 x (i + l.length)
  | [], m, i, _ => rfl
  | y :: l, m, i, h => by
    obtain ⟨h1, h2⟩ := fol_zero h
    rw [fol_step _ _ h1 h2] at h ⊢
    show folF r m (y :: (l ++ x)) i = _
    rw [fol_step _ _ h1 h2, fol_append x l _ _ h, show i + 1 + l.length = i + (y :: l).length by rw [List.length_cons]; omega]
/-- a deed more -/
theorem rg_more {r : Rit} {l : List (Int × Int)} (h : rgB r l = true) (day : Int) (a : Int) (h1 : (folF r m0 l 0).1.day ≤ day) (h2 : day ≤ r.last) :
    rgB r (l ++ [(day, a)]) = decide (brF r ((folF r m0 l 0).1.on day).d ((folF r m0 l 0).1.on day).day ((folF r m0 l 0).1.on day).de a = 0) := by
  obtain ⟨hr, hf, -⟩ := rg_yes h
  unfold rgB aftC
  rw [if_pos hr, fol_append _ _ _ _ hf]
  generalize (folF r m0 l 0).1 = m at h1
  have e : (folF r m [(day, a)] (0 + l.length)).2.2 = brF r (m.on day).d (m.on day).day (m.on day).de a := by
    unfold folF
    rw [if_neg (by dsimp only; omega)]
    dsimp only
    split
    · rfl
    · rename_i hb
      have hb := Classical.not_not.1 hb
      rw [hb]
      rfl
  rw [e]
  by_cases hb : brF r (m.on day).d (m.on day).day (m.on day).de a = 0
  · rw [if_pos hb, decide_eq_true hb]; rfl
  · rw [if_neg hb, decide_eq_false hb]; rfl
theorem of_cont {s : Nat} (hs : s < 65536) (i : Nat) : (ofN (elS s)).contains (i : Int) = s.testBit i := by
  rw [Bool.eq_iff_iff, List.contains_iff_mem, ← elS_mem hs]
  unfold ofN
  rw [List.mem_map]
  constructor
  · rintro ⟨k, hk, e⟩
    rw [show i = k by omega]
    exact hk
  · exact fun h => ⟨i, h, rfl⟩
theorem ne_cont {r : Rit} (h16 : r.n ≤ 16) (m : Mom) (i : Nat) : (ofN (elS (neS r m))).contains (i : Int) = decide (brF r m.d m.day m.de i = 0) := by
  have hl : neS r m < 65536 := lt16 (mkS_lt _ r.n) h16
  rw [of_cont hl, Bool.eq_iff_iff, decide_eq_true_iff, ← neS_mem h16, elS_mem hl]
theorem se_cont {r : Rit} (hr : RiOk r) (d : Nat) {i : Nat} (hi : i < r.n) : (ofN (elS (seS r d))).contains (i : Int) = seB r d i := by
  rw [of_cont (seS_lt hr d), seS_bit, decide_eq_true hi, Bool.true_and]
theorem fo_cont {r : Rit} (h16 : r.n ≤ 16) (d : Nat) (day : Int) {i : Nat} (hi : i < r.n) : (ofN (elS (foS r d day))).contains (i : Int) = foB r d day i := by
  have hl : foS r d day < 65536 := lt16 (mkS_lt _ r.n) h16
  rw [of_cont hl, foS_bit, decide_eq_true hi, Bool.true_and]
theorem hp_cont (r : Rit) (m : Mom) (i : Nat) : (ofN (elS (hpS r m))).contains (i : Int) = (hpS r m).testBit i := of_cont (hp_lt r m) i
/-- what a deed that breaks no rule shows -/
theorem br_zero {r : Rit} {d : Nat} {day de : Int} {a : Nat} (h : brF r d day de a = 0) : (d.testBit a = false ∧ ((r.ac a).ex = true ∨ seB r d a = false)) ∧ (r.ac a).fr ≤ day ∧ day ≤ (r.ac a).to_ ∧ neB r d a = true ∧ de < r.toil := by
  unfold brF at h
  rw [Int.toNat_natCast] at h
  split at h
  · cases h
  · split at h
    · cases h
    · rename_i h2
      split at h
      · cases h
      · rename_i h3
        split at h
        · cases h
        · rename_i h4
          split at h
          · cases h
          · split at h
            · cases h
            · rename_i h6
              simp only [Bool.or_eq_true, Bool.and_eq_true, Bool.not_eq_true', not_or, not_and] at h2
              refine ⟨⟨by simpa using h2.1, ?_⟩, by omega, by omega, by simpa using h4, by omega⟩
              rcases hx : (r.ac a).ex with _ | _
              · have := h2.2 hx; exact .inr (by simpa using this)
              · exact .inl rfl
theorem fo_facts {r : Rit} {d : Nat} {day de : Int} {a : Nat} (h : foB r d day a = true) : brF r d day de a ≠ 0 ∧ seB r d a = false ∧ (r.ac a).ex = false := by
  unfold foB at h
  rw [Bool.and_eq_true, Bool.and_eq_true] at h
  obtain ⟨⟨h1, h2⟩, h3⟩ := h
  refine ⟨fun hb => ?_, by simpa using h3, by simpa using h1⟩
  have h4 := (br_zero hb).2.2.1
  have h5 := of_decide_eq_true h2
  omega
theorem hp_facts {r : Rit} (hr : RiOk r) {m : Mom} {a : Nat} (h : (hpS r m).testBit a = true) : a < r.n ∧ brF r m.d m.day m.de a ≠ 0 ∧ seB r m.d a = false := by
  have hh := hp_ho r m
  have h10 := hr.n10
  have hp : 2 ^ r.n < 65536 := Nat.lt_of_le_of_lt (Nat.pow_le_pow_right (by decide) h10) (by decide)
  have hsub : ∀ i, (hpS r m).testBit i = true → i < r.n ∧ seB r m.d i = false := fun i hi => by
    have h1 := hh.sub i hi
    rw [anN_bit _ _ _ (by omega), Bool.and_eq_true, Nat.testBit_two_pow_sub_one] at h1
    have h2 := of_decide_eq_true h1.1
    have h3 := h1.2
    rw [seS_bit, decide_eq_true h2, Bool.true_and] at h3
    exact ⟨h2, by simpa using h3⟩
  obtain ⟨ha, hs⟩ := hsub a h
  refine ⟨ha, fun hb => ?_, hs⟩
  obtain ⟨-, -, h2, h3, -⟩ := br_zero hb
  have h4 := hh.sta a h
  unfold canB at h4
  have h5 := List.any_eq_false.1 h4 a (List.mem_range.2 ha)
  refine h5 ?_
  rw [Bool.and_eq_true, Bool.and_eq_true]
  refine ⟨?_, ?_, ?_⟩
  · unfold waS
    rw [mkS_bit, decide_eq_true (by omega), decide_eq_true rfl]
    rfl
  · rw [decide_eq_false (by omega)]; rfl
  · rw [List.all_eq_true]
    intro x hx
    unfold neB at h3
    have h6 := List.all_eq_true.1 h3 x hx
    rcases hb2 : (hpS r m).testBit x.toNat with _ | _
    · rfl
    · rw [(hsub _ hb2).2] at h6; cases h6
end Go.Proofs.YtcgdalabenflmaaDoor
/- Rite, plain: the reference's table of the fewest deeds, and the first of the fewest. -/
namespace Go.Proofs.YtcgdalabenflmaaDoor
open Go Go.RowKit
set_option maxRecDepth 100000
/-- the fewest deeds as the table says them -/
def capN (y : Nat) : Int := if y < 11 then (y : Int) else 99
def tvN (r : Rit) (x : Int) (i : Nat) (e : Int) : Int := capN (fwN r ⟨i, x, e⟩)
/-- the best, behind some acts -/
def fbF (r : Rit) (x : Int) (i : Nat) (e : Int) : Nat → Int
  | 0 => if x < r.last then tvN r (x + 1) i 0 else 99
  | k + 1 => if brF r i x e (k : Nat) = 0 then min (fbF r x i e k) (1 + tvN r x (i ||| 2 ^ k) (e + 1)) else fbF r x i e k
def gbF (r : Rit) (m : Mom) (k : Nat) : Nat := ((List.range k).filter fun a => decide (brF r m.d m.day m.de (a : Nat) = 0)).foldl (fun b a => min b (1 + fwN r (m.wi a))) (if m.day < r.last then fwN r (m.on (m.day + 1)) else 11)
theorem gb_succ (r : Rit) (m : Mom) (k : Nat) : gbF r m (k + 1) = if brF r m.d m.day m.de (k : Nat) = 0 then min (gbF r m k) (1 + fwN r (m.wi k)) else gbF r m k := by
  unfold gbF
  rw [List.range_succ, List.filter_append, List.foldl_append]
  by_cases h : brF r m.d m.day m.de (k : Nat) = 0
  · rw [if_pos h]; simp [h]
  · rw [if_neg h]; simp [h]
theorem gb_le (r : Rit) (m : Mom) (k : Nat) : gbF r m k ≤ 11 := by
  unfold gbF
  refine Nat.le_trans (foldl_min_le _ _ _) ?_
  split
  · exact fwN_le _ _
  · exact Nat.le_refl _
theorem cap_le (y : Nat) (h : y ≤ 11) : 0 ≤ capN y ∧ capN y ≤ 99 := by unfold capN; split <;> omega
theorem tv_le (r : Rit) (x : Int) (i : Nat) (e : Int) : 0 ≤ tvN r x i e ∧ tvN r x i e ≤ 99 := cap_le _ (fwN_le _ _)
theorem fb_gb {r : Rit} (hr : RiOk r) (x : Int) (i : Nat) (e : Int) : ∀ k, fbF r x i e k = capN (gbF r ⟨i, x, e⟩ k)
  | 0 => by
    have hon : Mom.on ⟨i, x, e⟩ (x + 1) = ⟨i, x + 1, 0⟩ := by unfold Mom.on; rw [if_neg (by dsimp only; omega)]
    show (if x < r.last then tvN r (x + 1) i 0 else 99) = capN (if x < r.last then fwN r (Mom.on ⟨i, x, e⟩ (x + 1)) else 11)
    rw [hon]
    split
    · rfl
    · rfl
  | k + 1 => by
    rw [gb_succ]
    show (if brF r i x e (k : Nat) = 0 then min (fbF r x i e k) (1 + tvN r x (i ||| 2 ^ k) (e + 1)) else fbF r x i e k) = _
    rw [fb_gb hr x i e k]
    by_cases h : brF r i x e (k : Nat) = 0
    · rw [if_pos h, if_pos h]
      have h10 := hr.n10
      have hu := br_undone h
      have h1 := un_wi hu.1 hu.2
      have h2 := un_le r i
      have hg := gb_le r ⟨i, x, e⟩ k
      have hf := fwN_le r (Mom.wi ⟨i, x, e⟩ k)
      have hun := fw_un (r := r) (by omega) _ (Mom.wi ⟨i, x, e⟩ k) (Nat.le_refl _)
      have e1 : tvN r x (i ||| 2 ^ k) (e + 1) = capN (fwN r (Mom.wi ⟨i, x, e⟩ k)) := rfl
      have e2 : unN r (Mom.wi ⟨i, x, e⟩ k).d = unN r (i ||| 2 ^ k) := rfl
      rw [e1]
      rw [e2] at hun
      generalize fwN r (Mom.wi ⟨i, x, e⟩ k) = y at hf hun
      generalize gbF r ⟨i, x, e⟩ k = g at hg
      unfold capN
      by_cases hy : y < 11
      · have := hun hy
        rw [if_pos hy]
        by_cases hg2 : g < 11
        · rw [if_pos hg2, if_pos (by omega)]; omega
        · rw [if_neg hg2, if_pos (by omega)]; omega
      · rw [if_neg hy]
        by_cases hg2 : g < 11
        · rw [if_pos hg2, if_pos (by omega)]; omega
        · rw [if_neg hg2, if_neg (by omega)]; omega
    · rw [if_neg h, if_neg h]
/-- how the table is reckoned -/
theorem tv_step {r : Rit} (hr : RiOk r) (x : Int) (i : Nat) (e : Int) : tvN r x i e = if coB r i = true then 0 else min (fbF r x i e r.n) 99 := by
  have h10 := hr.n10
  have hg := gb_le r ⟨i, x, e⟩ r.n
  rw [fb_gb hr]
  unfold tvN
  rw [fwN_eq (by omega)]
  by_cases hc : coB r i = true
  · rw [if_pos hc, if_pos hc]; rfl
  · rw [if_neg hc, if_neg hc]
    have e1 : (elS (neS r ⟨i, x, e⟩)).foldl (fun b a => min b (1 + fwN r (Mom.wi ⟨i, x, e⟩ a))) (if x < r.last then fwN r (Mom.on ⟨i, x, e⟩ (x + 1)) else 11) = gbF r ⟨i, x, e⟩ r.n := by
      unfold gbF neS
      rw [elS_mk _ (by omega)]
    show capN ((elS (neS r ⟨i, x, e⟩)).foldl (fun b a => min b (1 + fwN r (Mom.wi ⟨i, x, e⟩ a))) (if x < r.last then fwN r (Mom.on ⟨i, x, e⟩ (x + 1)) else 11)) = _
    rw [e1]
    have := (cap_le _ hg).2
    omega
theorem fb_le {r : Rit} (hr : RiOk r) (x : Int) (i : Nat) (e : Int) (k : Nat) : 0 ≤ fbF r x i e k ∧ fbF r x i e k ≤ 99 := by rw [fb_gb hr]; exact cap_le _ (gb_le _ _ _)
/-- the first of the fewest -/
def chB (r : Rit) (m : Mom) (v : Nat) (a : Nat) : Bool := decide (brF r m.d m.day m.de (a : Nat) = 0) && decide (fwN r (m.wi a) = v - 1)
theorem fnd_eq {r : Rit} (hr : RiOk r) (m : Mom) (v : Nat) : (elS (neS r m)).find? (fun a => decide (fwN r (m.wi a) = v - 1)) = (List.range r.n).find? (chB r m v) := by
  have h10 := hr.n10
  unfold neS
  rw [elS_mk _ (by omega), List.find?_filter]
  congr 1
  funext a
  unfold chB
  rw [Bool.eq_iff_iff]
  simp
theorem fnd_some {r : Rit} (hr : RiOk r) {m : Mom} {v a : Nat} (ha : a < r.n) (h1 : chB r m v a = true) (h2 : ∀ b, b < a → chB r m v b = false) : (elS (neS r m)).find? (fun a => decide (fwN r (m.wi a) = v - 1)) = some a := by
  rw [fnd_eq hr, List.find?_range_eq_some]
  exact ⟨h1, by simpa using ha, fun j hj => by rw [h2 j hj]; rfl⟩
theorem fnd_none {r : Rit} (hr : RiOk r) {m : Mom} {v : Nat} (h : ∀ b, b < r.n → chB r m v b = false) : (elS (neS r m)).find? (fun a => decide (fwN r (m.wi a) = v - 1)) = none := by
  rw [fnd_eq hr, List.find?_eq_none]
  intro x hx
  rw [h x (List.mem_range.1 hx)]
  decide
theorem ch_tv {r : Rit} {m : Mom} {v a : Nat} (h0 : 0 < v) (h1 : v < 11) : (tvN r m.day (m.d ||| 2 ^ a) (m.de + 1) = (v : Int) - 1) ↔ fwN r (m.wi a) = v - 1 := by
  have e1 : tvN r m.day (m.d ||| 2 ^ a) (m.de + 1) = capN (fwN r (m.wi a)) := rfl
  rw [e1]
  unfold capN
  split <;> omega
theorem tv_99 {r : Rit} {x : Int} {i : Nat} {e : Int} : tvN r x i e = 99 ↔ ¬ fwN r ⟨i, x, e⟩ < 11 := by
  unfold tvN capN
  split <;> omega
theorem tv_fw {r : Rit} {x : Int} {i : Nat} {e : Int} (h : fwN r ⟨i, x, e⟩ < 11) : tvN r x i e = (fwN r ⟨i, x, e⟩ : Int) := by
  unfold tvN capN
  rw [if_pos h]
end Go.Proofs.YtcgdalabenflmaaDoor
/- Rite, the reference: Fewest, the table. -/
namespace Go.Proofs.YtcgdalabenflmaaDoor
open Go Go.RowKit Go.Shelf
set_option maxHeartbeats 8000000
set_option maxRecDepth 100000
def nilS : Value := .slice none 0 0
theorem tz_row : (#[.slice none 0 0, .slice none 0 0, .slice none 0 0, .slice none 0 0, .slice none 0 0, .slice none 0 0, .slice none 0 0, .slice none 0 0, .slice none 0 0, .slice none 0 0, .slice none 0 0, .slice none 0 0, .slice none 0 0, .slice none 0 0, .slice none 0 0, .slice none 0 0, .slice none 0 0, .slice none 0 0, .slice none 0 0, .slice none 0 0, .slice none 0 0, .slice none 0 0, .slice none 0 0, .slice none 0 0, .slice none 0 0, .slice none 0 0, .slice none 0 0, .slice none 0 0, .slice none 0 0, .slice none 0 0, .slice none 0 0] : Array Value) = rowV 31 fun _ => nilS := by kernel_rfl
/-- a table as it lies -/
structure TbV (W : World) (r : Rit) (from_ : Nat) (A : Nat → Value) : Prop where
  one : ∀ k, (A k).oneCell' = true
  row : ∀ x : Nat, from_ ≤ x → (x : Int) ≤ r.last → ∃ b, A x = .slice (some ⟨b, 0, none⟩) (2 ^ r.n) (2 ^ r.n) ∧ b < W.heap.size ∧ ∀ i e : Nat, i < 2 ^ r.n → (e : Int) ≤ r.toil → W.cell? ⟨b, i * 5 + e, none⟩ = some (.int .i64 (tvN r x i e))
theorem TbV.ext {W W' : World} {r : Rit} {f : Nat} {A : Nat → Value} (h : TbV W r f A) (hb : Below W.heap.size W W') : TbV W' r f A :=
  ⟨h.one, fun x h0 h1 => by
    obtain ⟨b, h2, h3, h4⟩ := h.row x h0 h1
    exact ⟨b, h2, Nat.lt_of_lt_of_le h3 hb.size, fun i e hi he => (hb.cell (p := ⟨b, i * 5 + e, none⟩) h3).trans (h4 i e hi he)⟩⟩
theorem row_one {n : Nat} {A : Nat → Value} (h : ∀ k, (A k).oneCell' = true) : (rowV n A).all (·.oneCell') = true := by
  unfold rowV
  rw [← Array.all_toList, List.all_eq_true]
  intro x hx
  obtain ⟨k, -, rfl⟩ := List.mem_map.1 hx
  exact h k
theorem rowV_size (n : Nat) (A : Nat → Value) : (rowV n A).size = n := by unfold rowV; simp
theorem rowV_five (n : Nat) : madeCells (Value.agg #[.int .i64 0, .int .i64 0, .int .i64 0, .int .i64 0, .int .i64 0]).cells (n * 5) = rowV (n * 5) (fun _ => .int .i64 0) := by
  apply Array.ext_getElem?
  intro j
  have e : (Value.agg #[.int .i64 0, .int .i64 0, .int .i64 0, .int .i64 0, .int .i64 0]).cells = #[.int .i64 0, .int .i64 0, .int .i64 0, .int .i64 0, .int .i64 0] := by rfl
  rw [e]
  simp only [rowV, madeCells, Array.getElem?_map, Array.getElem?_range, List.getElem?_toArray, List.getElem?_map]
  by_cases hj : j < n * 5
  · simp [hj]
    have := Nat.mod_lt j (show 0 < 5 by omega)
    rcases (by omega : j % 5 = 0 ∨ j % 5 = 1 ∨ j % 5 = 2 ∨ j % 5 = 3 ∨ j % 5 = 4) with h | h | h | h | h <;> simp [h]
  · simp [hj]
theorem info_five : (Tryd.prog.info? 95).map (fun i => (i.zero, i.size, i.bytes)) = some (some (.agg #[.int .i64 0, .int .i64 0, .int .i64 0, .int .i64 0, .int .i64 0]), 5, 40) := by kernel_rfl
theorem wpList_load_run {P : Program} {ops : Array Oper} {rest : List Oper} {o : Oper} {a : Act} {w : World} {Q : Exit → Act → World → Prop} (hgd : o.guard = none) (ty : TypeId) (x : Operand) {v u : Value}
    (ho : o.op = .load ty x) (hx : a.eval x = v) (hrun : (Instr.loadAt ty v).run P w = .ok u w) (h : wpList P ops Q rest (a.put o.dst u) w) : wpList P ops Q (o :: rest) a w :=
  wpList_plain hgd fun _ hK => by
    unfold Oper.wp execOp
    simp only [ho, hx, hrun, Sem.run_bind, Sem.run_pure, Result.andThen_ok]
    exact hK _ _ h
/-- what lies while the table is made -/
structure FwI (w W : World) (G R T : Nat) (cs : Array Value) (A : Nat → Value) : Prop where
  lo : Below w.heap.size w W
  kG : Blk W G 24 cs
  kR : Blk W R 42 (rowV 31 fun _ => nilS)
  kT : Blk W T 42 (rowV 31 A)
  one : ∀ k, (A k).oneCell' = true
  ne : R < T
  hT : w.heap.size ≤ T
  hR : w.heap.size ≤ R
theorem FwI.ext {w W W' : World} {G R T : Nat} {cs : Array Value} {A : Nat → Value} (h : FwI w W G R T cs A) (hb : Below W.heap.size W W') : FwI w W' G R T cs A :=
  ⟨h.lo.trans (hb.mono h.lo.size), h.kG.ext hb, h.kR.ext hb, h.kT.ext hb, h.one, h.ne, h.hT, h.hR⟩
theorem FwI.put {w W : World} {G R T : Nat} {cs : Array Value} {A : Nat → Value} (h : FwI w W G R T cs A) (a : Nat) (v : Value) (hv : v.oneCell' = true) : FwI w (W.setCell ⟨T, a, none⟩ v) G R T cs (upd A a v) :=
  ⟨h.lo.setCell (p := ⟨T, a, none⟩) h.hT _, h.kG.far (p := ⟨T, a, none⟩) (h.kG.ne_ h.kT (by decide)) _, h.kR.far (p := ⟨T, a, none⟩) (Nat.ne_of_lt h.ne) _, by rw [← rowV_set]; exact h.kT.set_ a _, fun k => by unfold upd; split; exact hv; exact h.one k, h.ne, h.hT, h.hR⟩
theorem FwI.far {w W : World} {G R T : Nat} {cs : Array Value} {A : Nat → Value} (h : FwI w W G R T cs A) {X : Nat} (hX : w.heap.size ≤ X) (h1 : G ≠ X) (h2 : R ≠ X) (h3 : T ≠ X) (a : Nat) (v : Value) : FwI w (W.setCell ⟨X, a, none⟩ v) G R T cs A :=
  ⟨h.lo.setCell (p := ⟨X, a, none⟩) hX _, h.kG.far (p := ⟨X, a, none⟩) h1 _, h.kR.far (p := ⟨X, a, none⟩) h2 _, h.kT.far (p := ⟨X, a, none⟩) h3 _, h.one, h.ne, h.hT, h.hR⟩
theorem fw_boxes (w : World) (cs : Array Value) : ∃ w2, (w.alloc (.cells cs 24)).alloc (.cells #[.slice none 0 0, .slice none 0 0, .slice none 0 0, .slice none 0 0, .slice none 0 0, .slice none 0 0, .slice none 0 0, .slice none 0 0, .slice none 0 0, .slice none 0 0, .slice none 0 0, .slice none 0 0, .slice none 0 0, .slice none 0 0, .slice none 0 0, .slice none 0 0, .slice none 0 0, .slice none 0 0, .slice none 0 0, .slice none 0 0, .slice none 0 0, .slice none 0 0, .slice none 0 0, .slice none 0 0, .slice none 0 0, .slice none 0 0, .slice none 0 0, .slice none 0 0, .slice none 0 0, .slice none 0 0, .slice none 0 0] 42) = w2 ∧ ∃ w3, (Instr.storeAt 42 (.pointer (some ⟨w2.heap.size, 0, none⟩)) (.agg #[.slice none 0 0, .slice none 0 0, .slice none 0 0, .slice none 0 0, .slice none 0 0, .slice none 0 0, .slice none 0 0, .slice none 0 0, .slice none 0 0, .slice none 0 0, .slice none 0 0, .slice none 0 0, .slice none 0 0, .slice none 0 0, .slice none 0 0, .slice none 0 0, .slice none 0 0, .slice none 0 0, .slice none 0 0, .slice none 0 0, .slice none 0 0, .slice none 0 0, .slice none 0 0, .slice none 0 0, .slice none 0 0, .slice none 0 0, .slice none 0 0, .slice none 0 0, .slice none 0 0, .slice none 0 0, .slice none 0 0])).run Tryd.prog (w2.alloc (.cells #[.slice none 0 0, .slice none 0 0, .slice none 0 0, .slice none 0 0, .slice none 0 0, .slice none 0 0, .slice none 0 0, .slice none 0 0, .slice none 0 0, .slice none 0 0, .slice none 0 0, .slice none 0 0, .slice none 0 0, .slice none 0 0, .slice none 0 0, .slice none 0 0, .slice none 0 0, .slice none 0 0, .slice none 0 0, .slice none 0 0, .slice none 0 0, .slice none 0 0, .slice none 0 0, .slice none 0 0, .slice none 0 0, .slice none 0 0, .slice none 0 0, .slice none 0 0, .slice none 0 0, .slice none 0 0, .slice none 0 0] 42)) = .ok () w3 ∧ FwI w w3 w.heap.size (w.heap.size + 1) w2.heap.size cs (fun _ => nilS) := by
  obtain ⟨w1, hw1⟩ : ∃ x, w.alloc (.cells cs 24) = x := ⟨_, rfl⟩
  have hb1 : Below w.heap.size w w1 := by rw [← hw1]; exact (Below.refl _ _).alloc (Nat.le_refl _) _
  have k1 : Blk w1 w.heap.size 24 cs := by rw [← hw1]; exact Blk.new w _ _
  have hs1 : w1.heap.size = w.heap.size + 1 := by rw [← hw1]; simp
  rw [hw1]
  obtain ⟨w2, hw2⟩ : ∃ x, w1.alloc (.cells #[.slice none 0 0, .slice none 0 0, .slice none 0 0, .slice none 0 0, .slice none 0 0, .slice none 0 0, .slice none 0 0, .slice none 0 0, .slice none 0 0, .slice none 0 0, .slice none 0 0, .slice none 0 0, .slice none 0 0, .slice none 0 0, .slice none 0 0, .slice none 0 0, .slice none 0 0, .slice none 0 0, .slice none 0 0, .slice none 0 0, .slice none 0 0, .slice none 0 0, .slice none 0 0, .slice none 0 0, .slice none 0 0, .slice none 0 0, .slice none 0 0, .slice none 0 0, .slice none 0 0, .slice none 0 0, .slice none 0 0] 42) = x := ⟨_, rfl⟩
  have hb2 : Below w1.heap.size w1 w2 := by rw [← hw2]; exact (Below.refl _ _).alloc (Nat.le_refl _) _
  have k2 : Blk w2 (w.heap.size + 1) 42 #[.slice none 0 0, .slice none 0 0, .slice none 0 0, .slice none 0 0, .slice none 0 0, .slice none 0 0, .slice none 0 0, .slice none 0 0, .slice none 0 0, .slice none 0 0, .slice none 0 0, .slice none 0 0, .slice none 0 0, .slice none 0 0, .slice none 0 0, .slice none 0 0, .slice none 0 0, .slice none 0 0, .slice none 0 0, .slice none 0 0, .slice none 0 0, .slice none 0 0, .slice none 0 0, .slice none 0 0, .slice none 0 0, .slice none 0 0, .slice none 0 0, .slice none 0 0, .slice none 0 0, .slice none 0 0, .slice none 0 0] := by rw [← hw2, ← hs1]; exact Blk.new w1 _ _
  have hs2 : w2.heap.size = w.heap.size + 2 := by rw [← hw2]; simp [hs1]
  refine ⟨w2, hw2, ?_⟩
  have hb3 : Below w2.heap.size w2 (w2.alloc (.cells #[.slice none 0 0, .slice none 0 0, .slice none 0 0, .slice none 0 0, .slice none 0 0, .slice none 0 0, .slice none 0 0, .slice none 0 0, .slice none 0 0, .slice none 0 0, .slice none 0 0, .slice none 0 0, .slice none 0 0, .slice none 0 0, .slice none 0 0, .slice none 0 0, .slice none 0 0, .slice none 0 0, .slice none 0 0, .slice none 0 0, .slice none 0 0, .slice none 0 0, .slice none 0 0, .slice none 0 0, .slice none 0 0, .slice none 0 0, .slice none 0 0, .slice none 0 0, .slice none 0 0, .slice none 0 0, .slice none 0 0] 42)) := (Below.refl _ _).alloc (Nat.le_refl _) _
  obtain ⟨w3, hrun, hK, hB, -⟩ := store_blk (P := Tryd.prog) (ty := 42) (cells := #[.slice none 0 0, .slice none 0 0, .slice none 0 0, .slice none 0 0, .slice none 0 0, .slice none 0 0, .slice none 0 0, .slice none 0 0, .slice none 0 0, .slice none 0 0, .slice none 0 0, .slice none 0 0, .slice none 0 0, .slice none 0 0, .slice none 0 0, .slice none 0 0, .slice none 0 0, .slice none 0 0, .slice none 0 0, .slice none 0 0, .slice none 0 0, .slice none 0 0, .slice none 0 0, .slice none 0 0, .slice none 0 0, .slice none 0 0, .slice none 0 0, .slice none 0 0, .slice none 0 0, .slice none 0 0, .slice none 0 0]) (Blk.new w2 42 #[.slice none 0 0, .slice none 0 0, .slice none 0 0, .slice none 0 0, .slice none 0 0, .slice none 0 0, .slice none 0 0, .slice none 0 0, .slice none 0 0, .slice none 0 0, .slice none 0 0, .slice none 0 0, .slice none 0 0, .slice none 0 0, .slice none 0 0, .slice none 0 0, .slice none 0 0, .slice none 0 0, .slice none 0 0, .slice none 0 0, .slice none 0 0, .slice none 0 0, .slice none 0 0, .slice none 0 0, .slice none 0 0, .slice none 0 0, .slice none 0 0, .slice none 0 0, .slice none 0 0, .slice none 0 0, .slice none 0 0]) rfl (by kernel_rfl) (by kernel_rfl)
  have hb4 := hB _ _ hb3 (Nat.le_refl _)
  rw [tz_row] at k2 hK
  exact ⟨w3, hrun, (hb1.trans (hb2.mono (by omega))).trans (hb4.mono (by omega)), (k1.ext hb2).ext hb4, k2.ext hb4, hK, fun _ => rfl, by omega, by omega, by omega⟩
end Go.Proofs.YtcgdalabenflmaaDoor
/- Rite, the reference: Fewest, walked. -/
namespace Go.Proofs.YtcgdalabenflmaaDoor
open Go Go.RowKit Go.Shelf
set_option maxHeartbeats 16000000
set_option maxRecDepth 100000
/-- the rows of the later days -/
def UpD (W : World) (r : Rit) (S tl la : Nat) (A : Nat → Value) (s T B : Nat) : Prop :=
  ∀ x : Nat, s ≤ x → x ≤ la → ∃ b, A x = .slice (some ⟨b, 0, none⟩) S S ∧ (T < b ∧ b < B) ∧ ∀ i e : Nat, i < S → e ≤ tl → W.cell? ⟨b, i * 5 + e, none⟩ = some (.int .i64 (tvN r x i e))
theorem UpD.ext {W W' : World} {r : Rit} {S tl la : Nat} {A : Nat → Value} {s T B : Nat} (h : UpD W r S tl la A s T B) (hB : B ≤ W.heap.size) (hb : Below W.heap.size W W') : UpD W' r S tl la A s T B := fun x h0 h1 => by
  obtain ⟨b, h2, h3, h4⟩ := h x h0 h1
  exact ⟨b, h2, h3, fun i e hi he => (hb.cell (p := ⟨b, i * 5 + e, none⟩) (Nat.lt_of_lt_of_le h3.2 hB)).trans (h4 i e hi he)⟩
theorem UpD.far {W : World} {r : Rit} {S tl la : Nat} {A : Nat → Value} {s T B : Nat} (h : UpD W r S tl la A s T B) {X : Nat} (hX : B ≤ X ∨ X ≤ T) (q : Nat) (v : Value) : UpD (W.setCell ⟨X, q, none⟩ v) r S tl la A s T B := fun x h0 h1 => by
  obtain ⟨b, h2, h3, h4⟩ := h x h0 h1
  exact ⟨b, h2, h3, fun i e hi he => (World.cell?_of_block (Below.heap_setCell W ⟨X, q, none⟩ v b (by show b ≠ X; omega))).trans (h4 i e hi he)⟩
theorem UpD.upd {W : World} {r : Rit} {S tl la : Nat} {A : Nat → Value} {s T B : Nat} (h : UpD W r S tl la A s T B) {y : Nat} (hy : y < s) (v : Value) : UpD W r S tl la (upd A y v) s T B := fun x h0 h1 => by
  obtain ⟨b, h2, h3, h4⟩ := h x h0 h1
  exact ⟨b, by unfold Proofs.YtcgdalabenflmaaDoor.upd; rw [if_neg (by omega)]; exact h2, h3, h4⟩
/-- what lies while the row of a day is made -/
structure FtI (w W : World) (G R0 T : Nat) (cs : Array Value) (A : Nat → Value) (r : Rit) (S tl la y R : Nat) (F : Nat → Int) : Prop where
  base : FwI w W G R0 T cs A
  up : UpD W r S tl la A (y + 1) T R
  kR : Blk W R 95 (rowV (S * 5) fun q => .int .i64 (F q))
  aR : A y = .slice (some ⟨R, 0, none⟩) S S
  hR : w.heap.size ≤ R
theorem FtI.ext {w W W' : World} {G R0 T : Nat} {cs : Array Value} {A : Nat → Value} {r : Rit} {S tl la y R : Nat} {F : Nat → Int} (h : FtI w W G R0 T cs A r S tl la y R F) (hb : Below W.heap.size W W') : FtI w W' G R0 T cs A r S tl la y R F :=
  ⟨h.base.ext hb, h.up.ext (Nat.le_of_lt h.kR.lt) hb, h.kR.ext hb, h.aR, h.hR⟩
theorem FtI.put {w W : World} {G R0 T : Nat} {cs : Array Value} {A : Nat → Value} {r : Rit} {S tl la y R : Nat} {F : Nat → Int} (h : FtI w W G R0 T cs A r S tl la y R F) (q : Nat) (v : Int) : FtI w (W.setCell ⟨R, q, none⟩ (.int .i64 v)) G R0 T cs A r S tl la y R (upd F q v) :=
  ⟨h.base.far h.hR (h.base.kG.ne_ h.kR (by decide)) (h.base.kR.ne_ h.kR (by decide)) (h.base.kT.ne_ h.kR (by decide)) _ _, h.up.far (.inl (Nat.le_refl _)) _ _, by
    have h2 := h.kR.set_ q (.int .i64 v)
    rw [rowV_set] at h2
    have e : upd (fun q => Value.int .i64 (F q)) q (.int .i64 v) = fun k => Value.int .i64 (upd F q v k) := by
      funext k
      unfold upd
      split <;> rfl
    rw [e] at h2
    exact h2, h.aR, h.hR⟩
theorem FtI.at_ {w W : World} {G R0 T : Nat} {cs : Array Value} {A : Nat → Value} {r : Rit} {S tl la y R : Nat} {F : Nat → Int} (h : FtI w W G R0 T cs A r S tl la y R F) {q : Nat} (hq : q < S * 5) : W.cell? ⟨R, q, none⟩ = some (.int .i64 (F q)) := by
  rw [h.kR.cell, rowV_get _ _ hq]
/-- entries of the row that are known: of the sets from c + 1 on, and of set c with e deeds and more -/
def KnE (r : Rit) (S tl y : Nat) (F : Nat → Int) (c e0 : Nat) : Prop := ∀ i e : Nat, i < S → e ≤ tl → (c < i ∨ i = c ∧ e0 ≤ e) → F (i * 5 + e) = tvN r y i e
theorem KnE.put {r : Rit} {S tl y : Nat} {F : Nat → Int} {c e0 : Nat} (ht : tl ≤ 4) (h : KnE r S tl y F c (e0 + 1)) {v : Int} (he : e0 ≤ tl) (hv : v = tvN r y c e0) : KnE r S tl y (upd F (c * 5 + e0) v) c e0 := fun i e hi hel hc => by
  unfold upd
  by_cases hq : i * 5 + e = c * 5 + e0
  · rw [if_pos hq]
    have : i = c ∧ e = e0 := by omega
    rw [this.1, this.2]; exact hv
  · rw [if_neg hq]
    refine h i e hi hel ?_
    rcases hc with hc | ⟨rfl, hc⟩
    · exact .inl hc
    · exact .inr ⟨rfl, by omega⟩
def RFwPost (w : World) (r : Rit) (fr : Nat) (e : Ending) (w' : World) : Prop := ∃ A, e = .returned (.agg (rowV 31 A)) ∧ TbV w' r fr A ∧ Below w.heap.size w w'
theorem refFewest_any (d : Rad) (r : Rit) (fr : Nat) (w : World) (hd : RtR w d r) (hr : RiOk r) (hz : RtZ r) (hfr : (fr : Int) ≤ r.last) :
    Calls Tryd.prog 17 #[.agg #[.slice d.A r.n d.c, .int .i64 r.last, .int .i64 r.toil], .int .i64 (fr : Nat)] w (RFwPost w r fr) := by
  have HBR := hide (fun D day de act W (h : RtR W d r) => refBreaks_any d r D day de act W h hr hz)
  have HCO := hide (fun D W (h : RtR W d r) => refComplete_any d r D W h hr hz)
  have HRD := hide (fun W (h : Below w.heap.size w W) => hd.ext h)
  obtain ⟨w2, hw2, w3, hw3, hf⟩ := fw_boxes w #[.slice d.A r.n d.c, .int .i64 r.last, .int .i64 r.toil]
  have HRO := hide hr
  have hn10 := hr.n10
  obtain ⟨n, hn⟩ : ∃ x, r.n = x := ⟨_, rfl⟩
  obtain ⟨la, hla⟩ : ∃ x : Nat, r.last = x := ⟨r.last.toNat, by have := hr.l0; omega⟩
  obtain ⟨tl, htl⟩ : ∃ x : Nat, r.toil = x := ⟨r.toil.toNat, by have := hr.t1; omega⟩
  have hla30 : la ≤ 30 := by have := hr.l30; omega
  have htl4 : tl ≤ 4 := by have := hr.t4; omega
  have HN := hide (And.intro hn (And.intro hla htl))
  have HI := hide hf
  have HRUN := hide hw3
  rw [hla] at hfr
  rw [hn] at hn10
  rw [hn, hla, htl] at hw2 HI HBR HCO
  rw [hn, hla, htl]
  obtain ⟨f, hfe⟩ : ∃ f : Nat → Nat, (fun k => 2 ^ k) = f := ⟨_, rfl⟩
  have HF0 : Hid (f 0 = 1) := hide (by rw [← hfe])
  have HFS : Hid (∀ k, f (k + 1) = 2 * f k) := hide fun k => by rw [← hfe]; dsimp only; rw [Nat.pow_succ]; omega
  have HFL : Hid (∀ k, k ≤ 10 → f k ≤ 1024) := hide fun k hk => by rw [← hfe]; exact Nat.pow_le_pow_right (by decide) hk
  have HFN : Hid (2 ^ n = f n) := hide (by rw [← hfe])
  clear hd hr hz hn hla htl hf hw3 hfe
  go_enter Tryd.func17, Tryd.ntmps17
  go_upto_region 1 with fail
  (try rw [hw2])
  clear hw2
  obtain ⟨G, hG⟩ : ∃ x, w.heap.size = x := ⟨_, rfl⟩
  obtain ⟨R0, hR⟩ : ∃ x, w.heap.size + 1 = x := ⟨_, rfl⟩
  obtain ⟨T, hT⟩ : ∃ x, w2.heap.size = x := ⟨_, rfl⟩
  rw [hR, hT, hG] at HI
  rw [hT] at HRUN
  (try rw [hR])
  (try rw [hG])
  clear hG hR
  go_wp2_with (refine wpList_store_run rfl 42 (.tmp 5) (.tmp 15) rfl rfl rfl HRUN.out ?_)
  clear hT HRUN
  generalize hcs : #[Value.slice d.A n d.c, Value.int IntKind.i64 la, Value.int IntKind.i64 tl] = cs at HI
  have HCS := hide hcs.symm
  clear hcs
  go_loopw [6, 7] (fun x i wr => ∃ k : Nat, k ≤ n ∧ i = .int .i64 k ∧ x = .int .i64 (f k : Nat) ∧ Hid (w3 = wr)) (fun _ i _ => n - (intOf i).toNat)
  case atStart => exact ⟨0, Nat.zero_le _, rfl, by rw [HF0.out]; rfl, hide rfl⟩
  case round =>
    obtain ⟨k, hk, rfl, rfl, HW⟩ := hrel
    obtain rfl := HW.out
    have hst : IntKind.i64.wrap ((k : Int) + 1) = ((k + 1 : Nat) : Int) := by rw [IntWalk.i64_in _ (by omega)]; omega
    obtain ⟨-, g0, g1, g2, -⟩ := blk3 (by have := HI.out.kG; rw [HCS.out] at this; exact this)
    by_cases hlt : k < n
    · have hlt' : (k : Int) < (n : Int) := by omega
      have hl := HFL.out k (by omega)
      have HSX := hide (HFS.out k)
      generalize f k = y at hl HSX ⊢
      have hw1 : IntKind.i64.wrap (2 * (y : Int)) = 2 * (y : Int) := by rw [IntWalk.i64_in _ (by omega)]
      go_wp2_with fail
      go_roundw
      case rel => exact ⟨k + 1, by omega, by go_num, by rw [HSX.out]; simp, trivial⟩
      case measure => simp [intOf]; omega
    · obtain rfl : n = k := by omega
      have hnl : ¬ (n : Int) < (n : Int) := by omega
      obtain ⟨S, hS⟩ : ∃ S, f n = S := ⟨_, rfl⟩
      have hS1 : S ≤ 1024 := by rw [← hS]; exact HFL.out n hn10
      have HS2 : Hid (2 ^ n = S) := hide (by rw [HFN.out, hS])
      rw [hS]
      have hS0 : 0 < S := by rw [← HS2.out]; exact Nat.two_pow_pos n
      clear HF0 HFS HFL HFN hS hst hlt hk
      obtain ⟨i0, hi, hz0, hz1, hz2⟩ := info_parts info_five
      have gl : ∀ W : World, (Instr.makeSlice 40 (.int .i64 (S : Nat)) (.int .i64 (S : Nat))).run Tryd.prog W = .ok (.slice (some ⟨W.heap.size, 0, none⟩) S S) (W.alloc (.cells (rowV (S * 5) fun _ => .int .i64 0) 95)) := fun W => by
        have h := run_make_rowN (P := Tryd.prog) 40 95 i0 _ Tryd.underlying40 hi hz0 .i64 .i64 S S (Nat.le_refl _) (by rw [hz2]; omega) (by omega) W
        rw [hz1, rowV_five] at h
        exact h
      have GL := hide gl
      clear hi hz0 hz1 hz2 gl i0
      go_wp2_with fail
      clear g0 g1 g2
      go_loopw [8] (fun x wr => ∃ (s : Nat) (A : Nat → Value), fr ≤ s ∧ s ≤ la + 1 ∧ x = .int .i64 ((s : Int) - 1) ∧ Hid (FwI w wr G R0 T cs A) ∧ Hid (UpD wr r S tl la A s T wr.heap.size)) (fun x _ => (intOf x + 1).toNat)
      case atStart => exact ⟨la + 1, _, by omega, Nat.le_refl _, by go_num, HI, hide (fun x h0 h1 => absurd h0 (by omega))⟩
      case round =>
        obtain ⟨s, A, hs0, hs1, rfl, HI, HU⟩ := hrel
        rcases Nat.lt_or_ge fr s with hfs | hfs
        rotate_left
        · obtain rfl : s = fr := by omega
          have hge : ¬ (s : Int) ≤ (s : Int) - 1 := by omega
          have hz := store_blk (P := Tryd.prog) (ty := 42) (cells := rowV 31 A) HI.out.kR (by rw [rowV_size, rowV_size]) (by rw [rowV_size]; kernel_rfl) (row_one HI.out.one)
          obtain ⟨wz, hrz, hkz, hbz, hsz, hoz⟩ := hz
          have hlo := hbz _ _ HI.out.lo HI.out.hR
          have HTB : Hid (TbV wz r s A) := hide ⟨HI.out.one, fun x h0 h1 => by
            obtain ⟨b, h2, h3, h4⟩ := HU.out x h0 (by have := HN.out.2.1; omega)
            rw [HN.out.1, HS2.out]
            refine ⟨b, h2, by rw [hsz]; exact h3.2, fun i e hi he => ?_⟩
            have h5 := h4 i e hi (by have := HN.out.2.2; omega)
            have hbR : b ≠ R0 := by have := HI.out.ne; omega
            exact (World.cell?_of_block (hoz b hbR)).trans h5⟩
          have hld := run_loadVar_row (P := Tryd.prog) wr T 42 42 (rowV 31 A) _ _ HI.out.kT Tryd.underlying42 rfl (by rw [rowV_size]; kernel_rfl)
          have HLD : Hid ((Instr.loadAt 42 (.pointer (some ⟨T, 0, none⟩))).run Tryd.prog wr = .ok (.agg (rowV 31 A)) wr) := hide (by
            unfold Instr.loadAt
            simpa [Sem.run_bind, Instr.sureAddr, Result.andThen] using hld)
          have HRZ := hide hrz
          have HKZ := hide hkz
          have HLO := hide hlo
          clear hrz hkz hbz hsz hoz hlo hld HU
          go_wp2_with (first | (refine wpList_load_run rfl 42 (.tmp 5) rfl rfl HLD.out ?_) | (refine wpList_store_run rfl 42 (.tmp 4) (.tmp 104) rfl rfl rfl HRZ.out ?_))
          (try simp only [Exit.inBlock, Exit.then])
          refine bodyPost_ret (results1c rfl rfl HKZ.out Tryd.underlying42 (by rw [rowV_size]; kernel_rfl)) rfl ?_
          exact ⟨A, rfl, HTB.out, HLO.out⟩
        · obtain ⟨y, rfl⟩ : ∃ y, s = y + 1 := ⟨s - 1, by omega⟩
          have hy1 : ((y + 1 : Nat) : Int) - 1 = (y : Int) := by omega
          rw [hy1]
          clear hy1
          have hyf : (fr : Int) ≤ (y : Int) := by omega
          have hy31 : (y : Int) < 31 := by omega
          have hy31' : y < 31 := by omega
          have gl := GL.out wr
          have hTf := HI.out.kT.frozen y
          have hTl := HI.out.kT.lt
          have hTc := HI.out.kT.cell y
          rw [rowV_get _ _ hy31'] at hTc
          have hym : IntKind.i64.wrap ((y : Int) - 1) = (y : Int) - 1 := by rw [IntWalk.i64_in _ (by omega)]
          have hSm : IntKind.i64.wrap ((S : Int) - 1) = (S : Int) - 1 := by rw [IntWalk.i64_in _ (by omega)]
          go_upto_region 10 with fail
          obtain ⟨R, hRe⟩ : ∃ R, wr.heap.size = R := ⟨_, rfl⟩
          have hs0 : (wr.setCell ⟨T, y, none⟩ (.slice (some ⟨R, 0, none⟩) S S)).heap.size = R := by rw [size_set, hRe]
          have hba : Below R (wr.setCell ⟨T, y, none⟩ (.slice (some ⟨R, 0, none⟩) S S)) ((wr.setCell ⟨T, y, none⟩ (.slice (some ⟨R, 0, none⟩) S S)).alloc (.cells (rowV (S * 5) fun _ => .int .i64 0) 95)) := by
            have h := (Below.refl (wr.setCell ⟨T, y, none⟩ (.slice (some ⟨R, 0, none⟩) S S)).heap.size (wr.setCell ⟨T, y, none⟩ (.slice (some ⟨R, 0, none⟩) S S))).alloc (Nat.le_refl _) (.cells (rowV (S * 5) fun _ => .int .i64 0) 95)
            rw [hs0] at h
            exact h
          have hU := HU.out
          rw [hRe] at hU hTl
          have HF : Hid (FtI w ((wr.setCell ⟨T, y, none⟩ (.slice (some ⟨R, 0, none⟩) S S)).alloc (.cells (rowV (S * 5) fun _ => .int .i64 0) 95)) G R0 T cs (upd A y (.slice (some ⟨R, 0, none⟩) S S)) r S tl la y R (fun _ => 0)) := hide ⟨(HI.out.put y _ rfl).ext (by rw [hs0]; exact hba), ((hU.far (.inr (Nat.le_refl _)) _ _).upd (by omega) _).ext (by rw [hs0]; exact Nat.le_refl _) (by rw [hs0]; exact hba), by
            have h := Blk.new (wr.setCell ⟨T, y, none⟩ (.slice (some ⟨R, 0, none⟩) S S)) 95 (rowV (S * 5) fun _ => .int .i64 0)
            rw [hs0] at h
            exact h, by unfold upd; rw [if_pos rfl], by rw [← hRe]; exact HI.out.lo.size⟩
          rw [hRe]
          have HTR := hide hTl
          clear gl hTf hTl hTc hs0 hba hU HI HU hRe
          generalize ((wr.setCell ⟨T, y, none⟩ (.slice (some ⟨R, 0, none⟩) S S)).alloc (.cells (rowV (S * 5) fun _ => .int .i64 0) 95)) = W1 at HF ⊢
          generalize upd A y (.slice (some ⟨R, 0, none⟩) S S) = A1 at HF
          go_wp2_with fail
          go_loopw [9] (fun x wr => ∃ (s : Nat) (F : Nat → Int), s ≤ S ∧ x = .int .i64 ((s : Int) - 1) ∧ Hid (FtI w wr G R0 T cs A1 r S tl la y R F) ∧ Hid (∀ i e : Nat, s ≤ i → i < S → e ≤ tl → F (i * 5 + e) = tvN r y i e)) (fun x _ => (intOf x + 1).toNat)
          case atStart => exact ⟨S, _, Nat.le_refl _, by go_num, HF, hide (fun i e h0 h1 _ => absurd h0 (by omega))⟩
          case round =>
            obtain ⟨s, F, hs, rfl, HF, HK⟩ := hrel
            cases s with
            | zero =>
              have HU : Hid (UpD wr r S tl la A1 y T wr.heap.size) := hide fun x h0 h1 => by
                rcases Nat.lt_or_ge y x with h2 | h2
                · obtain ⟨b, h3, h4, h5⟩ := HF.out.up x h2 h1
                  exact ⟨b, h3, ⟨h4.1, Nat.lt_trans h4.2 HF.out.kR.lt⟩, h5⟩
                · obtain rfl : x = y := by omega
                  exact ⟨R, HF.out.aR, ⟨HTR.out, HF.out.kR.lt⟩, fun i e hi he => by rw [HF.out.at_ (by omega), HK.out i e (Nat.zero_le _) hi he]⟩
              have HB := hide HF.out.base
              have hz0 : ((0 : Nat) : Int) - 1 = -1 := rfl
              rw [hz0]
              clear hz0 HF HK hSm
              go_wp2_with fail
              go_roundw
              case rel => exact ⟨y, A1, by omega, by omega, rfl, HB, HU⟩
              case measure => simp [intOf]
            | succ c =>
              have hc1 : ((c + 1 : Nat) : Int) - 1 = (c : Int) := by omega
              rw [hc1]
              clear hc1
              have hc0 : (0 : Int) ≤ (c : Int) := by omega
              have hcS : (c : Int) < (S : Int) := by omega
              have hcS' : c < S := by omega
              have hcm : IntKind.i64.wrap ((c : Int) - 1) = (c : Int) - 1 := by rw [IntWalk.i64_in _ (by omega)]
              have HBK := hide (back_any c wr (by omega))
              go_wp2_with fail
              refine HBK.out.mono ?_
              rintro e wa ⟨rfl, hba⟩
              replace HF := hide (HF.out.ext hba)
              have hbb : Below wa.heap.size wa (wa.alloc (.cells #[.bool false, .bool false, .bool false, .bool false, .bool false, .bool false, .bool false, .bool false, .bool false, .bool false] 37)) := (Below.refl _ _).alloc (Nat.le_refl _) _
              obtain ⟨wb, hrun, hKE, hBE, -⟩ := store_blk (P := Tryd.prog) (ty := 37) (cells := #[.bool (dB c 0), .bool (dB c 1), .bool (dB c 2), .bool (dB c 3), .bool (dB c 4), .bool (dB c 5), .bool (dB c 6), .bool (dB c 7), .bool (dB c 8), .bool (dB c 9)]) (Blk.new wa 37 #[.bool false, .bool false, .bool false, .bool false, .bool false, .bool false, .bool false, .bool false, .bool false, .bool false]) rfl (by kernel_rfl) (by simp [Value.oneCell'])
              have hb := hBE _ _ hbb (Nat.le_refl _)
              have hRE := HF.out.kR.lt
              replace HF := hide (HF.out.ext hb)
              obtain ⟨E, hE⟩ : ∃ E, wa.heap.size = E := ⟨_, rfl⟩
              rw [hE] at hRE hKE hrun
              have KE := hide hKE
              have HRUN := hide hrun
              clear HBK hba hbb hKE hrun hBE hb
              obtain ⟨-, g0, g1, g2, -⟩ := blk3 (by have := HF.out.base.kG; rw [HCS.out] at this; exact this)
              go_wp2_with (refine wpList_store_run rfl 37 (.tmp 10) (.tmp 43) rfl rfl rfl HRUN.out ?_)
              clear HRUN hE g0 g1 g2
              go_loopw [11] (fun x wr => ∃ (s : Nat) (F : Nat → Int), s ≤ tl + 1 ∧ x = .int .i64 ((s : Int) - 1) ∧ Hid (FtI w wr G R0 T cs A1 r S tl la y R F) ∧ Hid (KnE r S tl y F c s) ∧ Hid (Blk wr E 37 #[.bool (dB c 0), .bool (dB c 1), .bool (dB c 2), .bool (dB c 3), .bool (dB c 4), .bool (dB c 5), .bool (dB c 6), .bool (dB c 7), .bool (dB c 8), .bool (dB c 9)])) (fun x _ => (intOf x + 1).toNat)
              case atStart => exact ⟨tl + 1, F, Nat.le_refl _, by go_num, HF, hide (fun i e h0 h1 h2 => by
                rcases h2 with h2 | h2
                · exact HK.out i e (by omega) h0 h1
                · omega), KE⟩
              case round =>
                obtain ⟨s, F, hs2, rfl, HF, HK, KE⟩ := hrel
                cases s with
                | zero =>
                  have hz0 : ((0 : Nat) : Int) - 1 = -1 := rfl
                  rw [hz0]
                  clear hz0
                  have HK2 : Hid (∀ i e : Nat, c ≤ i → i < S → e ≤ tl → F (i * 5 + e) = tvN r y i e) := hide fun i e h0 h1 h2 => HK.out i e h1 h2 (by omega)
                  clear HK KE
                  go_wp2_with fail
                  go_roundw
                  case rel => exact ⟨c, F, by omega, rfl, HF, HK2⟩
                  case measure => simp [intOf]
                | succ e0 =>
                  have he1 : ((e0 + 1 : Nat) : Int) - 1 = (e0 : Int) := by omega
                  rw [he1]
                  clear he1
                  have he0 : (0 : Int) ≤ (e0 : Int) := by omega
                  have hetl : e0 ≤ tl := by omega
                  have hem : IntKind.i64.wrap ((e0 : Int) - 1) = (e0 : Int) - 1 := by rw [IntWalk.i64_in _ (by omega)]
                  have hem1 : IntKind.i64.wrap ((e0 : Int) + 1) = ((e0 + 1 : Nat) : Int) := by rw [IntWalk.i64_in _ (by omega)]; omega
                  obtain ⟨bb, hbb⟩ : ∃ bb : Nat → Int, fbF r y c e0 = bb := ⟨_, rfl⟩
                  have HB0 : Hid (bb 0 = if y < la then tvN r ((y + 1 : Nat) : Int) c 0 else 99) := hide (by
                    rw [← hbb]
                    show (if (y : Int) < r.last then tvN r ((y : Int) + 1) c 0 else 99) = _
                    rw [HN.out.2.1]
                    by_cases h : y < la
                    · rw [if_pos h, if_pos (by omega)]; rfl
                    · rw [if_neg h, if_neg (by omega)])
                  have HBS : Hid (∀ k : Nat, bb (k + 1) = if brF r c y e0 (k : Nat) = 0 then min (bb k) (1 + tvN r y (c ||| 2 ^ k) ((e0 : Int) + 1)) else bb k) := hide fun k => by rw [← hbb]; rfl
                  have HBN : Hid (tvN r y c e0 = if coB r c = true then 0 else min (bb n) 99) := hide (by rw [← hbb, tv_step HRO.out, HN.out.1])
                  have HBL : Hid (∀ k, 0 ≤ bb k ∧ bb k ≤ 99) := hide fun k => by rw [← hbb]; exact fb_le HRO.out _ _ _ _
                  clear hbb
                  obtain ⟨-, g0, g1, g2, -⟩ := blk3 (by have := HF.out.base.kG; rw [HCS.out] at this; exact this)
                  go_upto_if 53 with fail
                  go_cut [12] (fun v w' => v = .int .i64 (bb 0) ∧ w' = wr)
                  case first =>
                    by_cases hyl : y < la
                    · have hyl' : (y : Int) < (la : Int) := by omega
                      have hy1 : IntKind.i64.wrap ((y : Int) + 1) = ((y + 1 : Nat) : Int) := by rw [IntWalk.i64_in _ (by omega)]; omega
                      have hy32 : ((y + 1 : Nat) : Int) < 31 := by omega
                      obtain ⟨b, h3, h4, h5⟩ := HF.out.up (y + 1) (Nat.le_refl _) (by omega)
                      have q0 := HF.out.base.kT.cell (y + 1)
                      rw [rowV_get _ _ (by omega), h3] at q0
                      have q1 := h5 c 0 hcS' (Nat.zero_le _)
                      have e9 := HB0.out
                      rw [if_pos hyl] at e9
                      rw [show ((0 : Nat) : Int) = 0 from rfl, ← e9, Nat.add_zero] at q1
                      clear h3 h4 h5 e9
                      go_wp2_with fail
                      go_meet
                      exact ⟨rfl, rfl⟩
                    · have hyl' : ¬ (y : Int) < (la : Int) := by omega
                      have e9 := HB0.out
                      rw [if_neg hyl] at e9
                      go_wp2_with fail
                      go_meet
                      exact ⟨by rw [e9], rfl⟩
                  obtain ⟨rfl, hwc⟩ := hcut
                  obtain rfl : wr = wc := hwc.symm
                  obtain ⟨wz, hwz⟩ : ∃ x, x = wr := ⟨_, rfl⟩
                  rw [← hwz] at HF KE ⊢
                  clear hwz g0 g1 g2
                  go_wp2_with fail
                  go_loopw [12, 13] (fun b i wr => ∃ k : Nat, k ≤ n ∧ i = .int .i64 k ∧ b = .int .i64 (bb k) ∧ Hid (Below wz.heap.size wz wr)) (fun _ i _ => n - (intOf i).toNat)
                  case atStart => exact ⟨0, Nat.zero_le _, rfl, rfl, hide (Below.refl _ _)⟩
                  case round =>
                    obtain ⟨k, hk, rfl, rfl, HBW⟩ := hrel
                    have hst : IntKind.i64.wrap ((k : Int) + 1) = ((k + 1 : Nat) : Int) := by rw [IntWalk.i64_in _ (by omega)]; omega
                    have HFr := hide (HF.out.ext HBW.out)
                    have KEr := hide (KE.out.ext HBW.out)
                    obtain ⟨-, g0, g1, g2, -⟩ := blk3 (by have := HFr.out.base.kG; rw [HCS.out] at this; exact this)
                    obtain ⟨x0, x1, x2, x3, x4, x5, x6, x7, x8, x9⟩ := bx10 KEr.out
                    by_cases hlt : k < n
                    · have hlt' : (k : Int) < (n : Int) := by omega
                      obtain ⟨br, hbr⟩ : ∃ x, brF r c y e0 (k : Nat) = x := ⟨_, rfl⟩
                      have HB1 := hide (HBR.out c y e0 k wr (HRD.out wr HFr.out.base.lo))
                      rw [hbr] at HB1
                      have HBR2 := hide hbr
                      clear hbr
                      go_wp2_with fail
                      refine HB1.out.mono ?_
                      rintro e wa ⟨rfl, hba⟩
                      replace HBW := hide (HBW.out.trans (hba.mono HBW.out.size))
                      clear hba HB1 g0 g1 g2 x0 x1 x2 x3 x4 x5 x6 x7 x8 x9 HFr KEr
                      by_cases hb0 : br = 0
                      · have hbr := HBR2.out
                        rw [hb0] at hbr
                        obtain ⟨hu1, hu2⟩ := br_undone hbr
                        have htoil := (br_zero hbr).2.2.2.2
                        have he5 : e0 + 1 ≤ tl := by have := HN.out.2.2; omega
                        have hk10 : k < 10 := by omega
                        have hk10' : (k : Int) < 10 := by omega
                        obtain ⟨c2, hc2⟩ : ∃ c2, c ||| 2 ^ k = c2 := ⟨_, rfl⟩
                        have hc2S : c2 < S := by
                          rw [← hc2, ← HS2.out]
                          rw [← HS2.out] at hcS'
                          exact Nat.or_lt_two_pow hcS' (Nat.pow_lt_pow_right (by decide) hlt)
                        have hc2c : c < c2 := by
                          have h1 : c ≤ c2 := by rw [← hc2]; exact Nat.left_le_or
                          rcases Nat.lt_or_eq_of_le h1 with h | h
                          · exact h
                          · rw [← h] at hc2
                            have h3 : (c ||| 2 ^ k).testBit k = true := by rw [Nat.testBit_or, Nat.testBit_two_pow]; simp
                            rw [hc2, hu2] at h3
                            cases h3
                        have hc2' : (c2 : Int) < (S : Int) := by omega
                        have hc20 : (0 : Int) ≤ (c2 : Int) := by omega
                        have he6 : (e0 : Int) + 1 < 5 := by omega
                        have he7 : (0 : Int) ≤ (e0 : Int) + 1 := by omega
                        have HBE : Hid (bb (k + 1) = min (bb k) (1 + tvN r y c2 ((e0 + 1 : Nat) : Int))) := hide (by rw [HBS.out, HBR2.out, if_pos hb0, hc2]; rfl)
                        have hKf : F (c2 * 5 + (e0 + 1)) = tvN r y c2 ((e0 + 1 : Nat) : Int) := HK.out c2 (e0 + 1) hc2S he5 (.inl hc2c)
                        obtain ⟨tv, htv⟩ : ∃ x, tvN r y c2 ((e0 + 1 : Nat) : Int) = x := ⟨_, rfl⟩
                        have htv9 : 0 ≤ tv ∧ tv ≤ 99 := by rw [← htv]; exact tv_le _ _ _ _
                        have hwt : IntKind.i64.wrap (1 + tv) = 1 + tv := by rw [IntWalk.i64_in _ (by omega)]
                        rw [htv] at HBE hKf
                        have hbb : Below wa.heap.size wa (wa.alloc (.cells #[.bool false, .bool false, .bool false, .bool false, .bool false, .bool false, .bool false, .bool false, .bool false, .bool false] 37)) := (Below.refl _ _).alloc (Nat.le_refl _) _
                        obtain ⟨wb, hrun, hKX, hBX, -⟩ := store_blk (P := Tryd.prog) (ty := 37) (cells := #[.bool (dB c 0), .bool (dB c 1), .bool (dB c 2), .bool (dB c 3), .bool (dB c 4), .bool (dB c 5), .bool (dB c 6), .bool (dB c 7), .bool (dB c 8), .bool (dB c 9)]) (Blk.new wa 37 #[.bool false, .bool false, .bool false, .bool false, .bool false, .bool false, .bool false, .bool false, .bool false, .bool false]) rfl (by kernel_rfl) (by simp [Value.oneCell'])
                        have hb := hBX _ _ hbb (Nat.le_refl _)
                        obtain ⟨X, hX⟩ : ∃ X, wa.heap.size = X := ⟨_, rfl⟩
                        rw [hX] at hKX hrun
                        have HRUN := hide hrun
                        have q1 := hKX.frozen k
                        have q0 := dn_cell hKX hk10
                        have hK2 : Blk (wb.setCell ⟨X, k, none⟩ (.bool true)) X 37 #[.bool (dB c2 0), .bool (dB c2 1), .bool (dB c2 2), .bool (dB c2 3), .bool (dB c2 4), .bool (dB c2 5), .bool (dB c2 6), .bool (dB c2 7), .bool (dB c2 8), .bool (dB c2 9)] := by rw [← dn_set c hk10 c2 hc2.symm]; exact hKX.set_ k _
                        have hb2 : Below wa.heap.size wa (wb.setCell ⟨X, k, none⟩ (.bool true)) := hb.setCell (p := ⟨X, k, none⟩) (by rw [hX]; exact Nat.le_refl _) _
                        obtain ⟨x0, x1, x2, x3, x4, x5, x6, x7, x8, x9⟩ := bx10 (KE.out.ext HBW.out)
                        have KX := hide hK2
                        replace HBW := hide (HBW.out.trans (hb2.mono HBW.out.size))
                        clear hKX hb2 hK2 hbb hrun hBX hb hc2 hbr hu1 hu2 htoil htv HBR2
                        go_upto_region 26 with (refine wpList_store_run rfl 37 (.tmp 14) (.tmp 76) rfl rfl rfl HRUN.out ?_)
                        have hd1 := (Below.refl (wb.setCell ⟨X, k, none⟩ (.bool true)).heap.size (wb.setCell ⟨X, k, none⟩ (.bool true))).drew
                        replace HBW := hide (HBW.out.trans (hd1.mono HBW.out.size))
                        replace KX := hide (KX.out.ext hd1)
                        clear hd1 x0 x1 x2 x3 x4 x5 x6 x7 x8 x9 q0 q1 hX HRUN
                        refine wp_region_J (fun W : World => (W.cell? ⟨T, y, none⟩ = some (.slice (some ⟨R, 0, none⟩) S S) ∧ (W.cell? ⟨X, 0, none⟩ = some (.bool (dB c2 0)) ∧ W.cell? ⟨X, 1, none⟩ = some (.bool (dB c2 1)) ∧ W.cell? ⟨X, 2, none⟩ = some (.bool (dB c2 2)) ∧ W.cell? ⟨X, 3, none⟩ = some (.bool (dB c2 3)) ∧ W.cell? ⟨X, 4, none⟩ = some (.bool (dB c2 4)) ∧ W.cell? ⟨X, 5, none⟩ = some (.bool (dB c2 5)) ∧ W.cell? ⟨X, 6, none⟩ = some (.bool (dB c2 6)) ∧ W.cell? ⟨X, 7, none⟩ = some (.bool (dB c2 7)) ∧ W.cell? ⟨X, 8, none⟩ = some (.bool (dB c2 8)) ∧ W.cell? ⟨X, 9, none⟩ = some (.bool (dB c2 9))) ∧ W.cell? ⟨R, c2 * 5 + (e0 + 1), none⟩ = some (.int .i64 tv))) (by kernel_rfl) ?_
                        generalize (wb.setCell ⟨X, k, none⟩ (.bool true)).drew = we at HBW KX ⊢
                        have HS26 : Hid (∀ W, Below we.heap.size we W → (W.cell? ⟨T, y, none⟩ = some (.slice (some ⟨R, 0, none⟩) S S) ∧ (W.cell? ⟨X, 0, none⟩ = some (.bool (dB c2 0)) ∧ W.cell? ⟨X, 1, none⟩ = some (.bool (dB c2 1)) ∧ W.cell? ⟨X, 2, none⟩ = some (.bool (dB c2 2)) ∧ W.cell? ⟨X, 3, none⟩ = some (.bool (dB c2 3)) ∧ W.cell? ⟨X, 4, none⟩ = some (.bool (dB c2 4)) ∧ W.cell? ⟨X, 5, none⟩ = some (.bool (dB c2 5)) ∧ W.cell? ⟨X, 6, none⟩ = some (.bool (dB c2 6)) ∧ W.cell? ⟨X, 7, none⟩ = some (.bool (dB c2 7)) ∧ W.cell? ⟨X, 8, none⟩ = some (.bool (dB c2 8)) ∧ W.cell? ⟨X, 9, none⟩ = some (.bool (dB c2 9))) ∧ W.cell? ⟨R, c2 * 5 + (e0 + 1), none⟩ = some (.int .i64 tv))) := hide fun W h => by
                          have hF2 := HF.out.ext (HBW.out.trans (h.mono HBW.out.size))
                          refine ⟨?_, bx10 (KX.out.ext h), ?_⟩
                          · rw [hF2.base.kT.cell, rowV_get _ _ hy31', hF2.aR]
                          · rw [hF2.at_ (by omega), hKf]
                        refine tk_start [0, 1, 2, 3, 4, 6, 7] ?_
                        iterate 7
                          refine tk_one (v := ?_) (by first | exact hF | exact wideFn) (HS26.out _ (Below.refl _ _)) rfl (by kernel_rfl) (by kernel_rfl) (by kernel_rfl) (by kernel_rfl) rfl ?_ (by first | exact fun _ _ _ h => h | exact fun _ _ _ h => hQ2 _ _ _ _ _ h) ?_
                          rotate_left
                          · intro W hSW
                            simp only [List.getElem_toArray, List.getElem_cons_zero, List.getElem_cons_succ]
                            (try dsimp only at hSW)
                            go_simp
                            with_reducible rfl
                          (try simp only [List.getElem_toArray, List.getElem_cons_zero, List.getElem_cons_succ, Act.put, List.setIfInBounds_toArray, List.set_cons_zero, List.set_cons_succ])
                        refine tk_end ?_
                        refine wpAnyJ_one 5 rfl (by kernel_rfl) (fun K hK => ?_)
                        simp only [List.getElem_toArray, List.getElem_cons_zero, List.getElem_cons_succ]
                        go_simp
                        refine ⟨trivial, rfl, ?_⟩
                        refine (callsIn_wide.2 (number_any c2 we (by omega))).mono ?_
                        rintro e wf ⟨rfl, hbf⟩
                        skip
                        dsimp only
                        refine hK.out _ _ (fun _ => HS26.out _ hbf) ?_
                        clear hK K
                        (try simp only [List.getElem_toArray, List.getElem_cons_zero, List.getElem_cons_succ, Act.put, List.setIfInBounds_toArray, List.set_cons_zero, List.set_cons_succ])
                        refine tk_start [8, 9, 10, 11, 12, 13] ?_
                        iterate 6
                          refine tk_one (v := ?_) (by first | exact hF | exact wideFn) (HS26.out _ hbf) rfl (by kernel_rfl) (by kernel_rfl) (by kernel_rfl) (by kernel_rfl) rfl ?_ (by first | exact fun _ _ _ h => h | exact fun _ _ _ h => hQ2 _ _ _ _ _ h) ?_
                          rotate_left
                          · intro W hSW
                            simp only [List.getElem_toArray, List.getElem_cons_zero, List.getElem_cons_succ]
                            (try dsimp only at hSW)
                            go_simp
                            with_reducible rfl
                          (try simp only [List.getElem_toArray, List.getElem_cons_zero, List.getElem_cons_succ, Act.put, List.setIfInBounds_toArray, List.set_cons_zero, List.set_cons_succ])
                        refine tk_end ?_
                        refine wpAnyJ_done (by kernel_rfl) ?_
                        go_wp2_with fail
                        go_roundw
                        case rel => exact ⟨k + 1, by omega, by go_num, by rw [HBE.out], hide (HBW.out.trans (hbf.mono HBW.out.size))⟩
                        case measure => simp [intOf]; omega
                      · have HBE : Hid (bb (k + 1) = bb k) := hide (by rw [HBS.out, HBR2.out, if_neg hb0])
                        go_wp2_with fail
                        go_roundw
                        case rel => exact ⟨k + 1, by omega, by go_num, by rw [HBE.out], HBW⟩
                        case measure => simp [intOf]; omega
                    · obtain rfl : n = k := by omega
                      have hnl : ¬ (n : Int) < (n : Int) := by omega
                      have hbn := HBL.out n
                      obtain ⟨co, hco⟩ : ∃ x, coB r c = x := ⟨_, rfl⟩
                      have HC1 := hide (HCO.out c wr (HRD.out wr HFr.out.base.lo))
                      have HCN := HBN.out
                      rw [hco] at HC1 HCN
                      replace HCN := hide HCN
                      clear hco
                      go_wp2_with fail
                      refine HC1.out.mono ?_
                      rintro e wa ⟨rfl, hba⟩
                      replace HFr := hide (HFr.out.ext hba)
                      replace KEr := hide (KEr.out.ext hba)
                      clear hba HC1 g0 g1 g2 x0 x1 x2 x3 x4 x5 x6 x7 x8 x9 hst hlt hk HBS HB0 HBN HBW HF KE
                      have q0 := HFr.out.base.kT.cell y
                      rw [rowV_get _ _ hy31', HFr.out.aR] at q0
                      have q1 := HFr.out.at_ (q := c * 5 + e0) (by omega)
                      have q2 := HFr.out.kR.frozen (c * 5 + e0)
                      have he6 : (e0 : Int) < 5 := by omega
                      cases co with
                      | true =>
                        have HF2 := hide (HFr.out.put (c * 5 + e0) 0)
                        have HK2 := hide (HK.out.put htl4 (v := 0) hetl (by rw [HCN.out, if_pos rfl]))
                        have KE2 := hide (KEr.out.far (p := ⟨R, c * 5 + e0, none⟩) (Nat.ne_of_gt hRE) (.int .i64 0))
                        go_wp2_with fail
                        go_roundw
                        case rel => exact ⟨e0, _, by omega, rfl, HF2, HK2, KE2⟩
                        case measure => simp [intOf]
                      | false =>
                        obtain ⟨v, hv⟩ : ∃ v, min (bb n) 99 = v := ⟨_, rfl⟩
                        have HF2 := hide (HFr.out.put (c * 5 + e0) v)
                        have HK2 := hide (HK.out.put htl4 (v := v) hetl (by rw [HCN.out, if_neg (by decide), hv]))
                        have KE2 := hide (KEr.out.far (p := ⟨R, c * 5 + e0, none⟩) (Nat.ne_of_gt hRE) (.int .i64 v))
                        go_wp2_with fail
                        go_roundw
                        case rel => exact ⟨e0, _, by omega, rfl, HF2, HK2, KE2⟩
                        case measure => simp [intOf]
end Go.Proofs.YtcgdalabenflmaaDoor
/- Rite, the reference: Repair, walked. -/
namespace Go.Proofs.YtcgdalabenflmaaDoor
open List renaming getElem_toArray → glA, getElem_cons_zero → glB, getElem_cons_succ → glC, setIfInBounds_toArray → glD, set_cons_zero → glE, set_cons_succ → glF
open Go Go.RowKit Go.Shelf
set_option maxHeartbeats 16000000
set_option maxRecDepth 100000
/-- what Repair returns -/
def rrL (r : Rit) (m : Mom) : List (Int × Int) := if fwN r m < 11 then rpL r m (fwN r m) else []
/-- what lies while the list is made -/
structure RpT (w W : World) (G T E : Nat) (cs : Array Value) (A : Nat → Value) (r : Rit) (fr D : Nat) : Prop where
  lo : Below w.heap.size w W
  kG : Blk W G 24 cs
  kT : Blk W T 42 (rowV 31 A)
  kD : Blk W E 37 #[.bool (dB D 0), .bool (dB D 1), .bool (dB D 2), .bool (dB D 3), .bool (dB D 4), .bool (dB D 5), .bool (dB D 6), .bool (dB D 7), .bool (dB D 8), .bool (dB D 9)]
  tb : TbV W r fr A
  t0 : TbV w r fr A
  hE : w.heap.size ≤ E
theorem RpT.ext {w W W' : World} {G T E : Nat} {cs : Array Value} {A : Nat → Value} {r : Rit} {fr D : Nat} (h : RpT w W G T E cs A r fr D) (hb : Below W.heap.size W W') : RpT w W' G T E cs A r fr D :=
  ⟨h.lo.trans (hb.mono h.lo.size), h.kG.ext hb, h.kT.ext hb, h.kD.ext hb, h.tb.ext hb, h.t0, h.hE⟩
theorem RpT.put {w W : World} {G T E : Nat} {cs : Array Value} {A : Nat → Value} {r : Rit} {fr D : Nat} (h : RpT w W G T E cs A r fr D) {a : Nat} (ha : a < 10) : RpT w (W.setCell ⟨E, a, none⟩ (.bool true)) G T E cs A r fr (D ||| 2 ^ a) :=
  ⟨h.lo.setCell (p := ⟨E, a, none⟩) h.hE _, h.kG.far (p := ⟨E, a, none⟩) (h.kG.ne_ h.kD (by decide)) _, h.kT.far (p := ⟨E, a, none⟩) (h.kT.ne_ h.kD (by decide)) _, by rw [← dn_set D ha _ rfl]; exact h.kD.set_ a _, h.t0.ext (h.lo.setCell (p := ⟨E, a, none⟩) h.hE _), h.t0, h.hE⟩
theorem RpT.far {w W W' : World} {G T E : Nat} {cs : Array Value} {A : Nat → Value} {r : Rit} {fr D base : Nat} (h : RpT w W G T E cs A r fr D) (hb : Below base W W') (hG : G < base) (hT : T < base) (hE : E < base) (hw : w.heap.size ≤ base) : RpT w W' G T E cs A r fr D :=
  ⟨h.lo.trans (hb.mono hw), h.kG.below hb hG, h.kT.below hb hT, h.kD.below hb hE, h.t0.ext (h.lo.trans (hb.mono hw)), h.t0, h.hE⟩
theorem rp_boxes (w : World) (cs : Array Value) (A : Nat → Value) (r : Rit) (fr D : Nat) (ht : TbV w r fr A) : ∃ w1 w2 w3, w.alloc (.cells cs 24) = w1 ∧ w1.alloc (.cells (rowV 31 A) 42) = w2 ∧ w2.alloc (.cells #[.bool (dB D 0), .bool (dB D 1), .bool (dB D 2), .bool (dB D 3), .bool (dB D 4), .bool (dB D 5), .bool (dB D 6), .bool (dB D 7), .bool (dB D 8), .bool (dB D 9)] 37) = w3 ∧ RpT w w3 w.heap.size w1.heap.size w2.heap.size cs A r fr D := by
  obtain ⟨w1, hw1⟩ : ∃ x, w.alloc (.cells cs 24) = x := ⟨_, rfl⟩
  have hb1 : Below w.heap.size w w1 := by rw [← hw1]; exact (Below.refl _ _).alloc (Nat.le_refl _) _
  have k1 : Blk w1 w.heap.size 24 cs := by rw [← hw1]; exact Blk.new w _ _
  obtain ⟨w2, hw2⟩ : ∃ x, w1.alloc (.cells (rowV 31 A) 42) = x := ⟨_, rfl⟩
  have hb2 : Below w1.heap.size w1 w2 := by rw [← hw2]; exact (Below.refl _ _).alloc (Nat.le_refl _) _
  have k2 : Blk w2 w1.heap.size 42 (rowV 31 A) := by rw [← hw2]; exact Blk.new w1 _ _
  obtain ⟨w3, hw3⟩ : ∃ x, w2.alloc (.cells #[.bool (dB D 0), .bool (dB D 1), .bool (dB D 2), .bool (dB D 3), .bool (dB D 4), .bool (dB D 5), .bool (dB D 6), .bool (dB D 7), .bool (dB D 8), .bool (dB D 9)] 37) = x := ⟨_, rfl⟩
  have hb3 : Below w2.heap.size w2 w3 := by rw [← hw3]; exact (Below.refl _ _).alloc (Nat.le_refl _) _
  have k3 : Blk w3 w2.heap.size 37 #[.bool (dB D 0), .bool (dB D 1), .bool (dB D 2), .bool (dB D 3), .bool (dB D 4), .bool (dB D 5), .bool (dB D 6), .bool (dB D 7), .bool (dB D 8), .bool (dB D 9)] := by rw [← hw3]; exact Blk.new w2 _ _
  have hlo : Below w.heap.size w w3 := (hb1.trans (hb2.mono hb1.size)).trans (hb3.mono (Nat.le_trans hb1.size hb2.size))
  exact ⟨w1, w2, w3, hw1, hw2, hw3, hlo, (k1.ext hb2).ext hb3, k2.ext hb3, k3, ht.ext hlo, ht, Nat.le_trans hb1.size hb2.size⟩
def RRpPost (w : World) (r : Rit) (m : Mom) (e : Ending) (w' : World) : Prop := ∃ B bc, e = .returned (.tuple #[.slice B (rrL r m).length bc, .bool (decide (fwN r m < 11))]) ∧ DsR w' B (rrL r m) ∧ Below w.heap.size w w'
/-- which act is chosen, behind the acts from k on -/
def ChQ (p : Nat → Bool) (n k : Nat) (cv : Int) : Prop := (cv = -1 ∧ ∀ a, k ≤ a → a < n → p a = false) ∨ ∃ a : Nat, cv = a ∧ k ≤ a ∧ a < n ∧ p a = true ∧ ∀ b, k ≤ b → b < a → p b = false
theorem ChQ.init (p : Nat → Bool) (n : Nat) : ChQ p n n (-1) := .inl ⟨rfl, fun a h0 h1 => absurd h0 (by omega)⟩
theorem ChQ.yes {p : Nat → Bool} {n k : Nat} (h : p k = true) (hk : k < n) : ChQ p n k (k : Int) := .inr ⟨k, rfl, Nat.le_refl _, hk, h, fun b h0 h1 => absurd h0 (by omega)⟩
theorem ChQ.no {p : Nat → Bool} {n k : Nat} {cv : Int} (h : ChQ p n (k + 1) cv) (hp : p k = false) : ChQ p n k cv := by
  rcases h with ⟨h1, h2⟩ | ⟨a, h1, h2, h3, h4, h5⟩
  · refine .inl ⟨h1, fun a h0 ha => ?_⟩
    rcases (by omega : a = k ∨ k + 1 ≤ a) with rfl | h
    · exact hp
    · exact h2 a h ha
  · refine .inr ⟨a, h1, by omega, h3, h4, fun b h0 hb => ?_⟩
    rcases (by omega : b = k ∨ k + 1 ≤ b) with rfl | h
    · exact hp
    · exact h5 b h hb
theorem refRepair_any (d : Rad) (r : Rit) (A : Nat → Value) (fr D y e : Nat) (w : World) (hd : RtR w d r) (hr : RiOk r) (hz : RtZ r) (ht : TbV w r fr A) (hD : D < 2 ^ r.n) (hy0 : fr ≤ y) (hy1 : (y : Int) ≤ r.last) (he : (e : Int) ≤ r.toil) :
    Calls Tryd.prog 18 #[.agg #[.slice d.A r.n d.c, .int .i64 r.last, .int .i64 r.toil], .agg (rowV 31 A), .agg #[.bool (dB D 0), .bool (dB D 1), .bool (dB D 2), .bool (dB D 3), .bool (dB D 4), .bool (dB D 5), .bool (dB D 6), .bool (dB D 7), .bool (dB D 8), .bool (dB D 9)], .int .i64 (y : Nat), .int .i64 (e : Nat)] w (RRpPost w r ⟨D, y, e⟩) := by
  have HBR := hide (fun D day de act W (h : RtR W d r) => refBreaks_any d r D day de act W h hr hz)
  have HRD := hide (fun W (h : Below w.heap.size w W) => hd.ext h)
  obtain ⟨w1, w2, w3, hw1, hw2, hw3, hf⟩ := rp_boxes w #[.slice d.A r.n d.c, .int .i64 r.last, .int .i64 r.toil] A r fr D ht
  have HRO := hide hr
  have hn10 := hr.n10
  obtain ⟨n, hn⟩ : ∃ x, r.n = x := ⟨_, rfl⟩
  obtain ⟨la, hla⟩ : ∃ x : Nat, r.last = x := ⟨r.last.toNat, by have := hr.l0; omega⟩
  obtain ⟨tl, htl⟩ : ∃ x : Nat, r.toil = x := ⟨r.toil.toNat, by have := hr.t1; omega⟩
  have hla30 : la ≤ 30 := by have := hr.l30; omega
  have htl4 : tl ≤ 4 := by have := hr.t4; omega
  have HN := hide (And.intro hn (And.intro hla htl))
  have HI := hide hf
  rw [hla] at hy1
  rw [htl] at he
  rw [hn] at hn10 hD
  rw [hn, hla, htl] at hw1 HI HBR
  rw [hn, hla, htl]
  obtain ⟨S, hS⟩ : ∃ S, 2 ^ n = S := ⟨_, rfl⟩
  have HS2 := hide hS
  have hS1 : S ≤ 1024 := by rw [← hS]; exact Nat.pow_le_pow_right (by decide) hn10
  rw [hS] at hD
  clear hd hr hz hn hla htl hf hS ht
  obtain ⟨RL, hRL⟩ : ∃ x, rrL r ⟨D, y, e⟩ = x := ⟨_, rfl⟩
  obtain ⟨ok, hok⟩ : ∃ x, decide (fwN r ⟨D, y, e⟩ < 11) = x := ⟨_, rfl⟩
  unfold RRpPost
  rw [hRL, hok]
  have HRL := hide hRL
  have HOK := hide hok
  clear hRL hok
  go_enter Tryd.func18, Tryd.ntmps18
  go_upto_region 1 with fail
  (try rw [hw1])
  (try rw [hw2])
  (try rw [hw3])
  obtain ⟨G, hG⟩ : ∃ x, w.heap.size = x := ⟨_, rfl⟩
  obtain ⟨T, hT⟩ : ∃ x, w1.heap.size = x := ⟨_, rfl⟩
  obtain ⟨E, hE⟩ : ∃ x, w2.heap.size = x := ⟨_, rfl⟩
  rw [hT, hE, hG] at HI
  rw [hG, hT, hE]
  clear hG hT hE hw1 hw2 hw3
  generalize hcs : #[Value.slice d.A n d.c, Value.int IntKind.i64 la, Value.int IntKind.i64 tl] = cs at HI
  have HCS := hide hcs.symm
  clear hcs
  obtain ⟨tv, htv⟩ : ∃ x, tvN r y D e = x := ⟨_, rfl⟩
  have HTV := hide htv
  clear htv
  go_cut [12, 13] (fun x z w' => x = .int .i64 tv ∧ Hid (∃ q, z = .slice (some ⟨q, 0, none⟩) 0 0 ∧ OwnD w' w3.heap.size z [] ∧ Below w3.heap.size w3 w'))
  case first =>
    have hy31 : y < 31 := by omega
    have hy31' : (y : Int) < 31 := by omega
    have hy00 : (0 : Int) ≤ (y : Int) := by omega
    have hD0 : (0 : Int) ≤ (D : Int) := by omega
    have hD1 : (D : Int) < (S : Int) := by omega
    have he0 : (0 : Int) ≤ (e : Int) := by omega
    have he5 : (e : Int) < 5 := by omega
    obtain ⟨b, hA, hbl, hbc⟩ := HI.out.tb.row y hy0 (by have := HN.out.2.1; omega)
    have hq := hbc D e (by rw [HN.out.1, HS2.out]; exact hD) (by have := HN.out.2.2; omega)
    rw [HN.out.1, HS2.out] at hA
    rw [HTV.out] at hq
    have HB0 : Hid (Below w3.heap.size w3 w3.drew) := hide (Below.refl _ _).drew
    have HS1 : Hid (∀ W, Below w3.heap.size w3 W → (W.cell? ⟨T, y, none⟩ = some (.slice (some ⟨b, 0, none⟩) S S) ∧ (W.cell? ⟨E, 0, none⟩ = some (.bool (dB D 0)) ∧ W.cell? ⟨E, 1, none⟩ = some (.bool (dB D 1)) ∧ W.cell? ⟨E, 2, none⟩ = some (.bool (dB D 2)) ∧ W.cell? ⟨E, 3, none⟩ = some (.bool (dB D 3)) ∧ W.cell? ⟨E, 4, none⟩ = some (.bool (dB D 4)) ∧ W.cell? ⟨E, 5, none⟩ = some (.bool (dB D 5)) ∧ W.cell? ⟨E, 6, none⟩ = some (.bool (dB D 6)) ∧ W.cell? ⟨E, 7, none⟩ = some (.bool (dB D 7)) ∧ W.cell? ⟨E, 8, none⟩ = some (.bool (dB D 8)) ∧ W.cell? ⟨E, 9, none⟩ = some (.bool (dB D 9))) ∧ W.cell? ⟨b, D * 5 + e, none⟩ = some (.int .i64 tv))) := hide fun W h => by
      have h2 := HI.out.ext h
      refine ⟨?_, bx10 h2.kD, (h.cell (p := ⟨b, D * 5 + e, none⟩) hbl).trans hq⟩
      rw [h2.kT.cell, rowV_get _ _ hy31, hA]
    clear hA hbl hbc hq
    refine wp_region_J (fun W : World => (W.cell? ⟨T, y, none⟩ = some (.slice (some ⟨b, 0, none⟩) S S) ∧ (W.cell? ⟨E, 0, none⟩ = some (.bool (dB D 0)) ∧ W.cell? ⟨E, 1, none⟩ = some (.bool (dB D 1)) ∧ W.cell? ⟨E, 2, none⟩ = some (.bool (dB D 2)) ∧ W.cell? ⟨E, 3, none⟩ = some (.bool (dB D 3)) ∧ W.cell? ⟨E, 4, none⟩ = some (.bool (dB D 4)) ∧ W.cell? ⟨E, 5, none⟩ = some (.bool (dB D 5)) ∧ W.cell? ⟨E, 6, none⟩ = some (.bool (dB D 6)) ∧ W.cell? ⟨E, 7, none⟩ = some (.bool (dB D 7)) ∧ W.cell? ⟨E, 8, none⟩ = some (.bool (dB D 8)) ∧ W.cell? ⟨E, 9, none⟩ = some (.bool (dB D 9))) ∧ W.cell? ⟨b, D * 5 + e, none⟩ = some (.int .i64 tv))) (by kernel_rfl) ?_
    generalize w3.drew = wd at HB0 ⊢
    refine tk_start [0, 1, 2, 3, 5] ?_
    iterate 5
      refine tk_one (v := ?_) (by first | exact hF | exact wideFn) (HS1.out _ HB0.out) rfl (by kernel_rfl) (by kernel_rfl) (by kernel_rfl) (by kernel_rfl) rfl ?_ (by first | exact fun _ _ _ h => h | exact fun _ _ _ h => hQ2 _ _ _ _ _ h) ?_
      rotate_left
      · intro W hSW
        simp only [glA, glB, glC]
        (try dsimp only at hSW)
        go_simp
        with_reducible rfl
      (try simp only [glA, glB, glC, Act.put, glD, glE, glF])
    refine tk_end ?_
    refine wpAnyJ_two 4 9 rfl rfl (by kernel_rfl) (fun K hK => ?_) (fun K hK => ?_)
    · simp only [glA, glB, glC]
      go_simp
      refine ⟨trivial, rfl, ?_⟩
      refine (callsIn_wide.2 (number_any D wd (by omega))).mono ?_
      rintro e wa ⟨rfl, hba⟩
      have HBa := hide (HB0.out.trans (hba.mono HB0.out.size))
      dsimp only
      refine hK.out _ _ (fun _ => HS1.out _ HBa.out) ?_
      clear hK K
      (try simp only [glA, glB, glC, Act.put, glD, glE, glF])
      refine tk_start [6, 7, 8, 10] ?_
      iterate 4
        refine tk_one (v := ?_) (by first | exact hF | exact wideFn) (HS1.out _ HBa.out) rfl (by kernel_rfl) (by kernel_rfl) (by kernel_rfl) (by kernel_rfl) rfl ?_ (by first | exact fun _ _ _ h => h | exact fun _ _ _ h => hQ2 _ _ _ _ _ h) ?_
        rotate_left
        · intro W hSW
          simp only [glA, glB, glC]
          (try dsimp only at hSW)
          go_simp
          with_reducible rfl
        (try simp only [glA, glB, glC, Act.put, glD, glE, glF])
      refine tk_end ?_
      have HBb : Hid (Below w3.heap.size w3 (wa.alloc (.cells #[] 60))) := hide (HBa.out.trans (((Below.refl _ _).alloc (Nat.le_refl _) _ : Below wa.heap.size wa _).mono HBa.out.size))
      refine wpAnyJ_one 9 rfl (by kernel_rfl) (fun K hK => ?_)
      simp only [glA, glB, glC]
      go_simp
      refine hK.out _ _ (fun _ => HS1.out _ HBb.out) ?_
      clear hK K
      (try simp only [glA, glB, glC, Act.put, glD, glE, glF])
      refine wpAnyJ_take 11 (v := ?_) (by first | exact hF | exact wideFn) (HS1.out _ HBb.out) rfl (by kernel_rfl) (by kernel_rfl) (by kernel_rfl) (by kernel_rfl) rfl ?_ (by first | exact fun _ _ _ h => h | exact fun _ _ _ h => hQ2 _ _ _ _ _ h) ?_
      rotate_left
      · intro W hSW
        simp only [glA, glB, glC]
        (try dsimp only at hSW)
        go_simp
        with_reducible rfl
      (try simp only [glA, glB, glC, Act.put, glD, glE, glF])
      refine wpAnyJ_done (by kernel_rfl) ?_
      go_wp2_with fail
      go_meet
      exact ⟨rfl, hide ⟨_, rfl, ownMono (OwnD.made0 wa) HBa.out.size, HBb.out⟩⟩
    · have HBa : Hid (Below w3.heap.size w3 (wd.alloc (.cells #[] 60))) := hide (HB0.out.trans (((Below.refl _ _).alloc (Nat.le_refl _) _ : Below wd.heap.size wd _).mono HB0.out.size))
      have HO : Hid (OwnD (wd.alloc (.cells #[] 60)) w3.heap.size (.slice (some ⟨wd.heap.size, 0, none⟩) 0 0) []) := hide (ownMono (OwnD.made0 wd) HB0.out.size)
      simp only [glA, glB, glC]
      go_simp
      refine hK.out _ _ (fun _ => HS1.out _ HBa.out) ?_
      clear hK K
      (try simp only [glA, glB, glC, Act.put, glD, glE, glF])
      generalize wd.alloc (.cells #[] 60) = we at HBa HO ⊢
      refine wpAnyJ_one 4 rfl (by kernel_rfl) (fun K hK => ?_)
      simp only [glA, glB, glC]
      go_simp
      refine ⟨trivial, rfl, ?_⟩
      refine (callsIn_wide.2 (number_any D we (by omega))).mono ?_
      rintro e wa ⟨rfl, hba⟩
      have HBb := hide (HBa.out.trans (hba.mono HBa.out.size))
      dsimp only
      refine hK.out _ _ (fun _ => HS1.out _ HBb.out) ?_
      clear hK K
      (try simp only [glA, glB, glC, Act.put, glD, glE, glF])
      refine tk_start [6, 7, 8, 10, 11] ?_
      iterate 5
        refine tk_one (v := ?_) (by first | exact hF | exact wideFn) (HS1.out _ HBb.out) rfl (by kernel_rfl) (by kernel_rfl) (by kernel_rfl) (by kernel_rfl) rfl ?_ (by first | exact fun _ _ _ h => h | exact fun _ _ _ h => hQ2 _ _ _ _ _ h) ?_
        rotate_left
        · intro W hSW
          simp only [glA, glB, glC]
          (try dsimp only at hSW)
          go_simp
          with_reducible rfl
        (try simp only [glA, glB, glC, Act.put, glD, glE, glF])
      refine tk_end ?_
      refine wpAnyJ_done (by kernel_rfl) ?_
      go_wp2_with fail
      go_meet
      exact ⟨rfl, hide ⟨_, rfl, HO.out.ext hba, HBb.out⟩⟩
  obtain ⟨rfl, HCT⟩ := hcut
  obtain ⟨q, rfl, hown, hbc⟩ := HCT.out
  obtain ⟨base, hbase⟩ : ∃ x, w3.heap.size = x := ⟨_, rfl⟩
  have HO := hide hown
  have HGB : Hid (G < base ∧ T < base ∧ E < base ∧ w.heap.size ≤ base) := hide (by rw [← hbase]; exact ⟨HI.out.kG.lt, HI.out.kT.lt, HI.out.kD.lt, HI.out.lo.size⟩)
  replace HI := hide (HI.out.ext hbc)
  have hb3 := hbc.size
  rw [hbase] at HO hb3
  have HBS := hide hb3
  clear HCT hown hbc hbase hb3
  by_cases h11 : fwN r ⟨D, y, e⟩ < 11
  rotate_left
  · have e1 : tv = 99 := by rw [← HTV.out]; exact tv_99.2 h11
    have e2 : RL = [] := by rw [← HRL.out]; unfold rrL; rw [if_neg h11]
    have e3 : ok = false := by rw [← HOK.out, decide_eq_false h11]
    subst e1 e2 e3
    have HLO := hide HI.out.lo
    clear HO HI HTV h11
    go_wp2_with fail
    go_ret2
    exact ⟨none, 0, rfl, ER.nil _ _ _ _ _, HLO.out⟩
  obtain ⟨v, hv⟩ : ∃ v, fwN r ⟨D, y, e⟩ = v := ⟨_, rfl⟩
  have e0 : ok = true := by rw [← HOK.out, decide_eq_true h11]
  subst e0
  have e1 : tv = (v : Int) := by rw [← HTV.out, tv_fw h11, hv]
  have hrl : rpL r ⟨D, y, e⟩ v = RL := by rw [← HRL.out]; unfold rrL; rw [if_pos h11, hv]
  have hv11 : v < 11 := by omega
  have hv99 : ((v : Int) == 99) = false := by rw [beq_eq_false_iff_ne]; omega
  have HS0 : Hid (([] : List (Int × Int)) ++ rpL r ⟨D, y, e⟩ v = RL ∧ fwN r ⟨D, y, e⟩ = v) := hide ⟨hrl, hv⟩
  have HRL10 : Hid (RL.length = v) := hide (by
    rw [← hrl]
    exact rp_len (by have := HN.out.1; omega) _ _ _ (Nat.le_refl _) hv hv11)
  subst e1
  clear HTV h11 hrl hv HRL HOK
  go_wp2_with fail
  clear hv99
  go_loopw [3, 4, 12, 13] (fun x y z o wr => ∃ (D dy de v : Nat) (L : List (Int × Int)) (B : Option Addr) (bc : Nat), (D < S ∧ fr ≤ dy ∧ dy ≤ la ∧ de ≤ tl ∧ v < 11 ∧ L.length + v ≤ 20) ∧ x = .int .i64 dy ∧ y = .int .i64 de ∧ z = .int .i64 v ∧ o = .slice B L.length bc ∧ Hid (OwnD wr base (.slice B L.length bc) L) ∧ Hid (RpT w wr G T E cs A r fr D) ∧ Hid (L ++ rpL r ⟨D, dy, de⟩ v = RL ∧ fwN r ⟨D, dy, de⟩ = v) ∧ base ≤ wr.heap.size) (fun x _ z _ _ => 32 * (intOf z).toNat + (30 - (intOf x).toNat))
  case atStart => exact ⟨D, y, e, v, [], _, _, ⟨hD, hy0, by omega, by omega, hv11, by simp; omega⟩, rfl, rfl, rfl, rfl, HO, HI, HS0, HBS.out⟩
  clear HO HI HS0 HBS hD hy0 hy1 he hv11
  case round =>
    obtain ⟨D, dy, de, v, L, B, bc, ⟨hD, hy0, hy1, he, hv11, hL20⟩, rfl, rfl, rfl, rfl, HO, HI, HX, hbase⟩ := hrel
    rcases Nat.eq_zero_or_pos v with hv0 | hv0
    · subst hv0
      have hll : L = RL := by
        have h := HX.out.1
        rw [rp_zero, List.append_nil] at h
        exact h
      subst hll
      have HD2 := hide HO.out.dsr.2
      have HLO := hide HI.out.lo
      clear HO HI HX
      go_wp2_with fail
      go_ret2
      exact ⟨B, bc, rfl, HD2.out, HLO.out⟩
    · have hz0 : (0 : Int) < (v : Int) := by omega
      have HPX : Hid (∃ p : Nat → Bool, chB r ⟨D, dy, de⟩ v = p) := hide ⟨_, rfl⟩
      obtain ⟨p, hp⟩ := HPX.out
      clear HPX
      have HPX := hide hp
      have HP : Hid (∀ a : Nat, p a = (decide (brF r D dy de (a : Nat) = 0) && decide (tvN r dy (D ||| 2 ^ a) ((de + 1 : Nat) : Int) = (v : Int) - 1))) := hide fun a => by
        rw [← hp]
        unfold chB
        congr 1
        exact decide_eq_decide.2 (ch_tv (m := ⟨D, dy, de⟩) hv0 hv11).symm
      clear hp
      have hnm : IntKind.i64.wrap ((n : Int) - 1) = (n : Int) - 1 := by rw [IntWalk.i64_in _ (by omega)]
      have hvm : IntKind.i64.wrap ((v : Int) - 1) = (v : Int) - 1 := by rw [IntWalk.i64_in _ (by omega)]
      have hem1 : IntKind.i64.wrap ((de : Int) + 1) = ((de + 1 : Nat) : Int) := by rw [IntWalk.i64_in _ (by omega)]; omega
      obtain ⟨wz, hwz⟩ : ∃ x, x = wr := ⟨_, rfl⟩
      rw [← hwz] at HI HO hbase ⊢
      clear hwz
      obtain ⟨-, g0, g1, g2, -⟩ := blk3 (by have := HI.out.kG; rw [HCS.out] at this; exact this)
      go_wp2_with fail
      clear g0 g1 g2
      go_loopw [14, 15] (fun ch i wr => ∃ (k : Nat) (cv : Int), k ≤ n ∧ i = .int .i64 ((k : Int) - 1) ∧ ch = .int .i64 cv ∧ Hid (ChQ p n k cv) ∧ Hid (Below wz.heap.size wz wr)) (fun _ i _ => (intOf i + 1).toNat)
      case atStart => exact ⟨n, -1, Nat.le_refl _, rfl, rfl, hide (ChQ.init p n), hide (Below.refl _ _)⟩
      case round =>
        obtain ⟨k, cv, hk, rfl, rfl, HQ, HBW⟩ := hrel
        cases k with
        | zero =>
          have hz1 : ((0 : Nat) : Int) - 1 = -1 := rfl
          rw [hz1]
          clear hz1 hk
          have hn16 : r.n ≤ 16 := by rw [HN.out.1]; omega
          replace HI := hide (HI.out.ext HBW.out)
          replace HO := hide (HO.out.ext HBW.out)
          replace hbase := Nat.le_trans hbase HBW.out.size
          rcases HQ.out with ⟨rfl, hno⟩ | ⟨a, rfl, -, han, hpa, hpb⟩
          · have hfn := fnd_none HRO.out (m := ⟨D, dy, de⟩) (v := v) (fun b hb => by rw [HPX.out]; exact hno b (Nat.zero_le _) (by rw [← HN.out.1]; exact hb))
            have hst : (dy : Int) < r.last ∧ fwN r (Mom.on ⟨D, dy, de⟩ ((dy : Int) + 1)) = v := by
              rcases fw_step hn16 HX.out.2 hv0 hv11 with ⟨a, ha, h2⟩ | h
              · have h3 := List.find?_eq_none.1 hfn a ha
                simp [h2] at h3
              · exact h
            have hon : Mom.on ⟨D, dy, de⟩ ((dy : Int) + 1) = ⟨D, ((dy + 1 : Nat) : Int), 0⟩ := by
              unfold Mom.on
              rw [if_neg (by dsimp only; omega)]
              rfl
            have hrp := rp_none (r := r) (m := ⟨D, dy, de⟩) hv0 hst.1 hfn
            have hst2 := hst.2
            dsimp only at hrp
            rw [hon] at hrp hst2
            have hdl : dy + 1 ≤ la := by have := hst.1; rw [HN.out.2.1] at this; omega
            have HX2 : Hid (L ++ rpL r ⟨D, ((dy + 1 : Nat) : Int), ((0 : Nat) : Int)⟩ v = RL ∧ fwN r ⟨D, ((dy + 1 : Nat) : Int), ((0 : Nat) : Int)⟩ = v) := hide ⟨by
              have h := HX.out.1
              rw [hrp] at h
              exact h, hst2⟩
            have hd1 : IntKind.i64.wrap ((dy : Int) + 1) = ((dy + 1 : Nat) : Int) := by rw [IntWalk.i64_in _ (by omega)]; omega
            clear hno hfn hst hon hrp hst2 HX HQ HP HPX
            go_wp2_with fail
            go_roundw
            case rel => exact ⟨D, dy + 1, 0, v, L, B, bc, ⟨hD, by omega, hdl, Nat.zero_le _, hv11, hL20⟩, by go_num, rfl, rfl, rfl, HO, HI, HX2, hbase⟩
            case measure => simp [intOf]; omega
          · have hfn := fnd_some HRO.out (m := ⟨D, dy, de⟩) (v := v) (by rw [HN.out.1]; exact han) (by rw [HPX.out]; exact hpa) (fun b hb => by rw [HPX.out]; exact hpb b (Nat.zero_le _) hb)
            have hrp := rp_some hn16 hv0 hfn
            have hcb : fwN r (Mom.wi ⟨D, dy, de⟩ a) = v - 1 := of_decide_eq_true (List.find?_some (p := fun a => decide (fwN r (Mom.wi ⟨D, dy, de⟩ a) = v - 1)) hfn)
            have hbr := (neS_mem hn16).1 (List.mem_of_find?_eq_some hfn)
            have htoil := (br_zero hbr).2.2.2.2
            dsimp only at htoil
            have he5 : de + 1 ≤ tl := by have := HN.out.2.2; omega
            have hk10 : a < 10 := by omega
            have hk10' : (a : Int) < 10 := by omega
            have ha0 : (0 : Int) ≤ (a : Int) := by omega
            have ha1 : ¬ (a : Int) < 0 := by omega
            obtain ⟨c2, hc2⟩ : ∃ c2, D ||| 2 ^ a = c2 := ⟨_, rfl⟩
            have hc2S : c2 < S := by
              rw [← hc2, ← HS2.out]
              rw [← HS2.out] at hD
              exact Nat.or_lt_two_pow hD (Nat.pow_lt_pow_right (by decide) han)
            have hwi : Mom.wi ⟨D, dy, de⟩ a = ⟨c2, dy, ((de + 1 : Nat) : Int)⟩ := by rw [← hc2]; rfl
            rw [hwi] at hrp hcb
            have HX2 : Hid ((L ++ [((dy : Int), (a : Int))]) ++ rpL r ⟨c2, dy, ((de + 1 : Nat) : Int)⟩ (v - 1) = RL ∧ fwN r ⟨c2, dy, ((de + 1 : Nat) : Int)⟩ = v - 1) := hide ⟨by
              have h := HX.out.1
              rw [hrp] at h
              rw [List.append_assoc]
              exact h, hcb⟩
            obtain ⟨B9, c9, w9, hrun, ho9, hg9⟩ := HO.out.push ((dy : Int), (a : Int)) (by omega) hbase
            have hbA : Below wr.heap.size wr (wr.alloc (.cells #[.int .i64 dy, .int .i64 a] 60)) := (Below.refl _ _).alloc (Nat.le_refl _) _
            have hb9 : Below base wr w9 := (hbA.mono hbase).grown hg9 (Nat.le_trans hbase hbA.size) (fun j e => (World.ownsRow.lt HO.out j e).1)
            have hI9 := HI.out.far hb9 HGB.out.1 HGB.out.2.1 HGB.out.2.2.1 HGB.out.2.2.2
            have q0 := dn_cell hI9.kD hk10
            have q1 := hI9.kD.frozen a
            have HI2 : Hid (RpT w (w9.setCell ⟨E, a, none⟩ (.bool true)) G T E cs A r fr c2) := hide (by rw [← hc2]; exact hI9.put hk10)
            have hbase2 : base ≤ (w9.setCell ⟨E, a, none⟩ (.bool true)).heap.size := by rw [size_set]; exact Nat.le_trans hbase hb9.size
            have HO2 : Hid (OwnD (w9.setCell ⟨E, a, none⟩ (.bool true)) base (.slice B9 (L.length + 1) c9) (L ++ [((dy : Int), (a : Int))])) := hide (ownsRow_setCell_below ho9 (a := ⟨E, a, none⟩) HGB.out.2.2.1 _)
            have HRUN := hide hrun
            have hv1 : ((v - 1 : Nat) : Int) = (v : Int) - 1 := by omega
            have hll : (L ++ [((dy : Int), (a : Int))]).length = L.length + 1 := by simp
            clear hrun ho9 hg9 hb9 hI9 hbA hpa hpb hfn hrp hcb hbr htoil hwi HX HQ HP HPX HO HI hc2
            go_wp2_with (at_builtin; refine wpList_append_run rfl (.tmp 67) (.tmp 71) 25 rfl rfl rfl HRUN.out ?_)
            go_roundw
            case rel => exact ⟨c2, dy, de + 1, v - 1, L ++ [((dy : Int), (a : Int))], B9, c9, ⟨hc2S, hy0, hy1, he5, by omega, by rw [hll]; omega⟩, rfl, rfl, by rw [hv1], by rw [hll], by rw [hll]; exact HO2, HI2, HX2, hbase2⟩
            case measure => simp [intOf]; omega
        | succ j =>
          have hj1 : ((j + 1 : Nat) : Int) - 1 = (j : Int) := by omega
          rw [hj1]
          clear hj1
          have hjn : j < n := by omega
          have hj0 : (0 : Int) ≤ (j : Int) := by omega
          have hjm : IntKind.i64.wrap ((j : Int) - 1) = (j : Int) - 1 := by rw [IntWalk.i64_in _ (by omega)]
          have HIr := hide (HI.out.ext HBW.out)
          obtain ⟨-, g0, g1, g2, -⟩ := blk3 (by have := HIr.out.kG; rw [HCS.out] at this; exact this)
          obtain ⟨x0, x1, x2, x3, x4, x5, x6, x7, x8, x9⟩ := bx10 HIr.out.kD
          obtain ⟨br, hbr⟩ : ∃ x, brF r D dy de (j : Nat) = x := ⟨_, rfl⟩
          have HB1 := hide (HBR.out D dy de j wr (HRD.out wr HIr.out.lo))
          rw [hbr] at HB1
          have HBR2 := hide hbr
          clear hbr
          go_wp2_with fail
          refine HB1.out.mono ?_
          rintro e wa ⟨rfl, hba⟩
          replace HBW := hide (HBW.out.trans (hba.mono HBW.out.size))
          clear hba HB1 g0 g1 g2 x0 x1 x2 x3 x4 x5 x6 x7 x8 x9 HIr
          by_cases hb0 : br = 0
          · have hbr := HBR2.out
            rw [hb0] at hbr
            obtain ⟨hu1, hu2⟩ := br_undone hbr
            have htoil := (br_zero hbr).2.2.2.2
            have he5 : de + 1 ≤ tl := by have := HN.out.2.2; omega
            have hk10 : j < 10 := by omega
            have hk10' : (j : Int) < 10 := by omega
            obtain ⟨c2, hc2⟩ : ∃ c2, D ||| 2 ^ j = c2 := ⟨_, rfl⟩
            have hc2S : c2 < S := by
              rw [← hc2, ← HS2.out]
              rw [← HS2.out] at hD
              exact Nat.or_lt_two_pow hD (Nat.pow_lt_pow_right (by decide) hjn)
            have hc2' : (c2 : Int) < (S : Int) := by omega
            have hc20 : (0 : Int) ≤ (c2 : Int) := by omega
            have he6 : (de : Int) + 1 < 5 := by omega
            have he7 : (0 : Int) ≤ (de : Int) + 1 := by omega
            have hy31 : dy < 31 := by omega
            have hy31' : (dy : Int) < 31 := by omega
            have hy00 : (0 : Int) ≤ (dy : Int) := by omega
            obtain ⟨tv, htv⟩ : ∃ x, tvN r dy c2 ((de + 1 : Nat) : Int) = x := ⟨_, rfl⟩
            have HPJ : Hid (p j = decide (tv = (v : Int) - 1)) := hide (by rw [HP.out, HBR2.out, hb0, hc2, htv, decide_eq_true rfl, Bool.true_and])
            have hIa := HI.out.ext HBW.out
            obtain ⟨b, hA, hbl, hbc⟩ := hIa.tb.row dy hy0 (by have := HN.out.2.1; omega)
            have hq := hbc c2 (de + 1) (by rw [HN.out.1, HS2.out]; exact hc2S) (by have := HN.out.2.2; omega)
            rw [HN.out.1, HS2.out] at hA
            rw [htv] at hq
            have hbb : Below wa.heap.size wa (wa.alloc (.cells #[.bool false, .bool false, .bool false, .bool false, .bool false, .bool false, .bool false, .bool false, .bool false, .bool false] 37)) := (Below.refl _ _).alloc (Nat.le_refl _) _
            obtain ⟨wb, hrun, hKX, hBX, -⟩ := store_blk (P := Tryd.prog) (ty := 37) (cells := #[.bool (dB D 0), .bool (dB D 1), .bool (dB D 2), .bool (dB D 3), .bool (dB D 4), .bool (dB D 5), .bool (dB D 6), .bool (dB D 7), .bool (dB D 8), .bool (dB D 9)]) (Blk.new wa 37 #[.bool false, .bool false, .bool false, .bool false, .bool false, .bool false, .bool false, .bool false, .bool false, .bool false]) rfl (by kernel_rfl) (by simp [Value.oneCell'])
            have hb := hBX _ _ hbb (Nat.le_refl _)
            obtain ⟨X, hX⟩ : ∃ X, wa.heap.size = X := ⟨_, rfl⟩
            rw [hX] at hKX hrun
            have HRUN := hide hrun
            have q1 := hKX.frozen j
            have q0 := dn_cell hKX hk10
            have hK2 : Blk (wb.setCell ⟨X, j, none⟩ (.bool true)) X 37 #[.bool (dB c2 0), .bool (dB c2 1), .bool (dB c2 2), .bool (dB c2 3), .bool (dB c2 4), .bool (dB c2 5), .bool (dB c2 6), .bool (dB c2 7), .bool (dB c2 8), .bool (dB c2 9)] := by rw [← dn_set D hk10 c2 hc2.symm]; exact hKX.set_ j _
            have hb2 : Below wa.heap.size wa (wb.setCell ⟨X, j, none⟩ (.bool true)) := hb.setCell (p := ⟨X, j, none⟩) (by rw [hX]; exact Nat.le_refl _) _
            obtain ⟨x0, x1, x2, x3, x4, x5, x6, x7, x8, x9⟩ := bx10 hIa.kD
            have KX := hide hK2
            have hTc := hIa.kT.cell dy
            rw [rowV_get _ _ hy31, hA] at hTc
            have HTA : Hid (∀ W, Below wa.heap.size wa W → W.cell? ⟨T, dy, none⟩ = some (.slice (some ⟨b, 0, none⟩) S S) ∧ W.cell? ⟨b, c2 * 5 + (de + 1), none⟩ = some (.int .i64 tv)) := hide fun W h => ⟨(h.cell (p := ⟨T, dy, none⟩) hIa.kT.lt).trans hTc, (h.cell (p := ⟨b, c2 * 5 + (de + 1), none⟩) hbl).trans hq⟩
            have HBa := hide hb2
            replace HBW := hide (HBW.out.trans (hb2.mono HBW.out.size))
            clear hKX hb2 hK2 hbb hrun hBX hb hc2 hbr hu1 hu2 htoil htv HBR2 hIa hA hbl hbc hq hTc
            go_upto_region 12 with (refine wpList_store_run rfl 37 (.tmp 16) (.tmp 46) rfl rfl rfl HRUN.out ?_)
            have hd1 := (Below.refl (wb.setCell ⟨X, j, none⟩ (.bool true)).heap.size (wb.setCell ⟨X, j, none⟩ (.bool true))).drew
            replace HBW := hide (HBW.out.trans (hd1.mono HBW.out.size))
            replace HBa := hide (HBa.out.trans (hd1.mono HBa.out.size))
            replace KX := hide (KX.out.ext hd1)
            clear hd1 x0 x1 x2 x3 x4 x5 x6 x7 x8 x9 q0 q1 hX HRUN
            refine wp_region_J (fun W : World => (W.cell? ⟨T, dy, none⟩ = some (.slice (some ⟨b, 0, none⟩) S S) ∧ (W.cell? ⟨X, 0, none⟩ = some (.bool (dB c2 0)) ∧ W.cell? ⟨X, 1, none⟩ = some (.bool (dB c2 1)) ∧ W.cell? ⟨X, 2, none⟩ = some (.bool (dB c2 2)) ∧ W.cell? ⟨X, 3, none⟩ = some (.bool (dB c2 3)) ∧ W.cell? ⟨X, 4, none⟩ = some (.bool (dB c2 4)) ∧ W.cell? ⟨X, 5, none⟩ = some (.bool (dB c2 5)) ∧ W.cell? ⟨X, 6, none⟩ = some (.bool (dB c2 6)) ∧ W.cell? ⟨X, 7, none⟩ = some (.bool (dB c2 7)) ∧ W.cell? ⟨X, 8, none⟩ = some (.bool (dB c2 8)) ∧ W.cell? ⟨X, 9, none⟩ = some (.bool (dB c2 9))) ∧ W.cell? ⟨b, c2 * 5 + (de + 1), none⟩ = some (.int .i64 tv))) (by kernel_rfl) ?_
            generalize (wb.setCell ⟨X, j, none⟩ (.bool true)).drew = we at HBW HBa KX ⊢
            have HS12 : Hid (∀ W, Below we.heap.size we W → (W.cell? ⟨T, dy, none⟩ = some (.slice (some ⟨b, 0, none⟩) S S) ∧ (W.cell? ⟨X, 0, none⟩ = some (.bool (dB c2 0)) ∧ W.cell? ⟨X, 1, none⟩ = some (.bool (dB c2 1)) ∧ W.cell? ⟨X, 2, none⟩ = some (.bool (dB c2 2)) ∧ W.cell? ⟨X, 3, none⟩ = some (.bool (dB c2 3)) ∧ W.cell? ⟨X, 4, none⟩ = some (.bool (dB c2 4)) ∧ W.cell? ⟨X, 5, none⟩ = some (.bool (dB c2 5)) ∧ W.cell? ⟨X, 6, none⟩ = some (.bool (dB c2 6)) ∧ W.cell? ⟨X, 7, none⟩ = some (.bool (dB c2 7)) ∧ W.cell? ⟨X, 8, none⟩ = some (.bool (dB c2 8)) ∧ W.cell? ⟨X, 9, none⟩ = some (.bool (dB c2 9))) ∧ W.cell? ⟨b, c2 * 5 + (de + 1), none⟩ = some (.int .i64 tv))) := hide fun W h => by
              have h2 := HTA.out W (HBa.out.trans (h.mono HBa.out.size))
              exact ⟨h2.1, bx10 (KX.out.ext h), h2.2⟩
            refine tk_start [0, 1, 2, 3, 5, 6, 10, 11] ?_
            iterate 8
              refine tk_one (v := ?_) (by first | exact hF | exact wideFn) (HS12.out _ (Below.refl _ _)) rfl (by kernel_rfl) (by kernel_rfl) (by kernel_rfl) (by kernel_rfl) rfl ?_ (by first | exact fun _ _ _ h => h | exact fun _ _ _ h => hQ2 _ _ _ _ _ h) ?_
              rotate_left
              · intro W hSW
                simp only [glA, glB, glC]
                (try dsimp only at hSW)
                go_simp
                with_reducible rfl
              (try simp only [glA, glB, glC, Act.put, glD, glE, glF])
            refine tk_end ?_
            refine wpAnyJ_one 4 rfl (by kernel_rfl) (fun K hK => ?_)
            simp only [glA, glB, glC]
            go_simp
            refine ⟨trivial, rfl, ?_⟩
            refine (callsIn_wide.2 (number_any c2 we (by omega))).mono ?_
            rintro e wf ⟨rfl, hbf⟩
            skip
            dsimp only
            refine hK.out _ _ (fun _ => HS12.out _ hbf) ?_
            clear hK K
            (try simp only [glA, glB, glC, Act.put, glD, glE, glF])
            replace HBW := hide (HBW.out.trans (hbf.mono HBW.out.size))
            by_cases hq : tv = (v : Int) - 1
            · have hpj : p j = true := by rw [HPJ.out]; exact decide_eq_true hq
              have HQ2 := hide (ChQ.yes hpj hjn)
              subst hq
              refine tk_start [7, 8, 9, 12] ?_
              iterate 4
                refine tk_one (v := ?_) (by first | exact hF | exact wideFn) (HS12.out _ hbf) rfl (by kernel_rfl) (by kernel_rfl) (by kernel_rfl) (by kernel_rfl) rfl ?_ (by first | exact fun _ _ _ h => h | exact fun _ _ _ h => hQ2 _ _ _ _ _ h) ?_
                rotate_left
                · intro W hSW
                  simp only [glA, glB, glC]
                  (try dsimp only at hSW)
                  go_simp
                  with_reducible rfl
                (try simp only [glA, glB, glC, Act.put, glD, glE, glF])
              refine tk_end ?_
              refine wpAnyJ_done (by kernel_rfl) ?_
              go_wp2_with fail
              go_roundw
              case rel => exact ⟨j, j, by omega, rfl, rfl, HQ2, HBW⟩
              case measure => simp [intOf]
            · have hpj : p j = false := by rw [HPJ.out]; exact decide_eq_false hq
              have HQ2 := hide (HQ.out.no hpj)
              have hq2 : (tv == (v : Int) - 1) = false := by rw [beq_eq_false_iff_ne]; exact hq
              refine tk_start [7, 8, 9, 12] ?_
              iterate 4
                refine tk_one (v := ?_) (by first | exact hF | exact wideFn) (HS12.out _ hbf) rfl (by kernel_rfl) (by kernel_rfl) (by kernel_rfl) (by kernel_rfl) rfl ?_ (by first | exact fun _ _ _ h => h | exact fun _ _ _ h => hQ2 _ _ _ _ _ h) ?_
                rotate_left
                · intro W hSW
                  simp only [glA, glB, glC]
                  (try dsimp only at hSW)
                  go_simp
                  with_reducible rfl
                (try simp only [glA, glB, glC, Act.put, glD, glE, glF])
              refine tk_end ?_
              refine wpAnyJ_done (by kernel_rfl) ?_
              go_wp2_with fail
              go_roundw
              case rel => exact ⟨j, cv, by omega, rfl, rfl, HQ2, HBW⟩
              case measure => simp [intOf]
          · have hpj : p j = false := by rw [HP.out, HBR2.out, decide_eq_false hb0]; rfl
            have HQ2 := hide (HQ.out.no hpj)
            clear hpj HBR2
            go_wp2_with fail
            go_roundw
            case rel => exact ⟨j, cv, by omega, rfl, rfl, HQ2, HBW⟩
            case measure => simp [intOf]
end Go.Proofs.YtcgdalabenflmaaDoor
/- Rite: what Repair and Latest answer, said in one way. -/
namespace Go.Proofs.YtcgdalabenflmaaDoor
open Go Go.RowKit Go.Shelf
set_option maxHeartbeats 8000000
set_option maxRecDepth 100000
-- what Repair and Latest answer, said in one way
def rprC (r : Rit) (l : List (Int × Int)) (day : Int) : Int := if frC r l day ≠ 0 then frC r l day else if fwN r ((folF r m0 l 0).1.on day) < 11 then 0 else 7
def rprL (r : Rit) (l : List (Int × Int)) (day : Int) : List (Int × Int) := if rprC r l day = 0 then rpL r ((folF r m0 l 0).1.on day) (fwN r ((folF r m0 l 0).1.on day)) else []
theorem OwnD.cap {W : World} {n0 : Nat} {A : Option Addr} {n c : Nat} {l : List (Int × Int)} (h : OwnD W n0 (.slice A n c) l) : n ≤ c ∧ c ≤ maxLen := by
  rcases h.2 with ⟨h1, h2⟩ | ⟨g, cap, cur, h1, h2, h3, h4, h5, h6, h7⟩
  · injection h1 with h1 h3 h4
    subst h3 h4
    unfold maxLen
    exact ⟨Nat.le_refl _, Nat.zero_le _⟩
  · injection h1 with h1 h3 h4
    subst h3 h4
    unfold maxLen at *
    omega
theorem rpr_all {w w' : World} {r : Rit} {l : List (Int × Int)} {day : Int} {e : Ending} (h : RprPost w r l day e w') :
    ∃ B bc, e = .returned (.tuple #[.slice B (rprL r l day).length bc, .int .i64 (rprC r l day)]) ∧ (DsR w' B (rprL r l day) ∧ (rprL r l day).length ≤ bc) ∧ Below w.heap.size w w' := by
  obtain ⟨⟨hc, rfl⟩ | ⟨hc, -, ⟨h11, rfl⟩ | ⟨h11, v, rfl, hv⟩⟩, hb⟩ := h
  · have e1 : rprC r l day = frC r l day := by unfold rprC; rw [if_pos hc]
    have e2 : rprL r l day = [] := by unfold rprL; rw [e1, if_neg hc]
    rw [e1, e2]
    exact ⟨none, 0, rfl, ⟨ER.nil _ _ _ _ _, Nat.le_refl _⟩, hb⟩
  · have e1 : rprC r l day = 7 := by unfold rprC; rw [if_neg (by simpa using hc), if_neg (by omega)]
    have e2 : rprL r l day = [] := by unfold rprL; rw [e1, if_neg (by decide)]
    rw [e1, e2]
    exact ⟨none, 0, rfl, ⟨ER.nil _ _ _ _ _, Nat.le_refl _⟩, hb⟩
  · have e1 : rprC r l day = 0 := by unfold rprC; rw [if_neg (by simpa using hc), if_pos h11]
    have e2 : rprL r l day = rpL r ((folF r m0 l 0).1.on day) (fwN r ((folF r m0 l 0).1.on day)) := by unfold rprL; rw [if_pos e1]
    rw [e1, e2]
    obtain ⟨B, bc, rfl⟩ := own_shape hv
    exact ⟨B, bc, rfl, ⟨hv.dsr.2, hv.cap.1⟩, hb⟩
theorem lat_all {w w' : World} {r : Rit} {l : List (Int × Int)} {e : Ending} (ha : aftC r l = 0) (h : LatPost w r l e w') :
    ∃ x g, e = .returned (.tuple #[.int .i64 x, .int .i64 g]) ∧ (g = 0 ∧ LatR r (folF r m0 l 0).1 x ∨ g = 7 ∧ ∀ y, (folF r m0 l 0).1.day ≤ y → y ≤ r.last → ¬ fwN r ((folF r m0 l 0).1.on y) < 11) ∧ Below w.heap.size w w' := by
  obtain ⟨⟨hc, rfl⟩ | ⟨hc, -, ⟨x, hx, rfl⟩ | ⟨hx, rfl⟩⟩, hb⟩ := h
  · exact absurd ha hc
  · exact ⟨x, 0, rfl, .inl ⟨rfl, hx⟩, hb⟩
  · exact ⟨0, 7, rfl, .inr ⟨rfl, hx⟩, hb⟩
theorem lat2_all {w w' : World} {r : Rit} {l : List (Int × Int)} {e : Ending} (h : LatPost w r l e w') :
    ∃ x g, e = .returned (.tuple #[.int .i64 x, .int .i64 g]) ∧ ((aftC r l ≠ 0 → x = 0 ∧ g = aftC r l) ∧ (aftC r l = 0 → (g = 0 ∧ LatR r (folF r m0 l 0).1 x ∨ (g = 7 ∧ x = 0) ∧ ∀ y, (folF r m0 l 0).1.day ≤ y → y ≤ r.last → ¬ fwN r ((folF r m0 l 0).1.on y) < 11))) ∧ Below w.heap.size w w' := by
  obtain ⟨⟨hc, rfl⟩ | ⟨hc, -, ⟨x, hx, rfl⟩ | ⟨hx, rfl⟩⟩, hb⟩ := h
  · exact ⟨0, _, rfl, ⟨fun _ => ⟨rfl, rfl⟩, fun h => absurd h hc⟩, hb⟩
  · exact ⟨x, 0, rfl, ⟨fun h => absurd hc h, fun _ => .inl ⟨rfl, hx⟩⟩, hb⟩
  · exact ⟨0, 7, rfl, ⟨fun h => absurd hc h, fun _ => .inr ⟨⟨rfl, rfl⟩, hx⟩⟩, hb⟩
end Go.Proofs.YtcgdalabenflmaaDoor
/- Rite, plain: what the fewest deeds do: they complete the rite, none of them can be left out, a later day has no fewer; a hopeless act is never settled. -/
namespace Go.Proofs.YtcgdalabenflmaaDoor
open Go Go.RowKit
set_option maxRecDepth 100000
theorem on_day (m : Mom) (x : Int) : (m.on x).day = x := by
  unfold Mom.on
  split
  · rename_i h; exact h.symm
  · rfl
theorem on_same (m : Mom) : m.on m.day = m := by unfold Mom.on; rw [if_pos rfl]
theorem on_on {m : Mom} {a b : Int} (h1 : m.day ≤ a) (h2 : a ≤ b) : (m.on a).on b = m.on b := by
  by_cases e : a = m.day
  · subst e; rw [on_same]
  · have e1 : m.on a = ⟨m.d, a, 0⟩ := by unfold Mom.on; rw [if_neg e]
    rw [e1]
    unfold Mom.on
    dsimp only
    by_cases e2 : b = a
    · subst e2; rw [if_pos rfl, if_neg e]
    · rw [if_neg e2, if_neg (by omega)]
/-- a course from a moment on keeps all rules, and completes the rite -/
def Dones (r : Rit) (m : Mom) (x : List (Int × Int)) (i : Nat) : Prop := (folF r m x i).2.2 = 0 ∧ coB r (folF r m x i).1.d = true
theorem dones_on {r : Rit} {m : Mom} {day : Int} (h1 : m.day ≤ day) {x : List (Int × Int)} (hx : ∀ y ∈ x, day ≤ y.1) (i : Nat) : Dones r (m.on day) x i ↔ Dones r m x i := by
  cases x with
  | nil =>
    show ((0 : Int) = 0 ∧ coB r (m.on day).d = true) ↔ ((0 : Int) = 0 ∧ coB r m.d = true)
    rw [on_d]
  | cons y l =>
    have hy := hx y (List.mem_cons_self ..)
    unfold Dones
    rw [folF, folF, on_day, on_on h1 hy]
    by_cases hl : r.last < y.1
    · rw [if_pos (.inr hl), if_pos (.inr hl)]
      exact ⟨fun h => (by have := h.1; cases this), fun h => (by have := h.1; cases this)⟩
    · rw [if_neg (show ¬ (y.1 < day ∨ r.last < y.1) by omega), if_neg (show ¬ (y.1 < m.day ∨ r.last < y.1) by omega)]
theorem fw_next {r : Rit} (hn : r.n ≤ 16) {m : Mom} (hd : m.day < r.last) : fwN r m ≤ fwN r (m.on (m.day + 1)) := by
  rw [fwN_eq hn m]
  by_cases hc : coB r m.d = true
  · rw [if_pos hc]; exact Nat.zero_le _
  · rw [if_neg hc, if_pos hd]
    exact foldl_min_le _ _ _
/-- a later day has no fewer -/
theorem fw_on {r : Rit} (hn : r.n ≤ 16) : ∀ (k : Nat) (m : Mom) (x : Int), m.day ≤ x → x ≤ r.last → (x - m.day).toNat ≤ k → fwN r m ≤ fwN r (m.on x)
  | 0, m, x, h1, h2, hk => by
    obtain rfl : x = m.day := by omega
    rw [on_same]
    exact Nat.le_refl _
  | k + 1, m, x, h1, h2, hk => by
    by_cases e : x = m.day
    · subst e; rw [on_same]; exact Nat.le_refl _
    · have h3 := fw_on hn k (m.on (m.day + 1)) x (by rw [on_day]; omega) h2 (by rw [on_day]; omega)
      rw [on_on (by omega) (by omega)] at h3
      exact Nat.le_trans (fw_next hn (by omega)) h3
theorem fw_mono {r : Rit} (hn : r.n ≤ 16) {m : Mom} {x y : Int} (h0 : m.day ≤ x) (h1 : x ≤ y) (h2 : y ≤ r.last) : fwN r (m.on x) ≤ fwN r (m.on y) := by
  have h := fw_on hn _ (m.on x) y (by rw [on_day]; exact h1) h2 (Nat.le_refl _)
  rw [on_on h0 h1] at h
  exact h
/-- no course has fewer -/
theorem fw_course {r : Rit} (hn : r.n ≤ 16) : ∀ (x : List (Int × Int)) (m : Mom) (i : Nat), Dones r m x i → fwN r m ≤ x.length
  | [], m, i, h => by
    rw [(fw_zero hn m).2 h.2]
    exact Nat.zero_le _
  | y :: l, m, i, h => by
    obtain ⟨h1, h2⟩ := fol_zero h.1
    have hs := fol_step l i h1 h2
    have h3 : Dones r ((m.on y.1).wi y.2.toNat) l (i + 1) := by unfold Dones at h ⊢; rw [← hs]; exact h
    have h4 := fw_course hn l _ _ h3
    have hb : brF r (m.on y.1).d (m.on y.1).day (m.on y.1).de y.2 = 0 := Classical.not_not.1 h2
    have hr := br_range hb
    have hm : y.2.toNat ∈ elS (neS r (m.on y.1)) := (neS_mem hn).2 (by rw [Int.toNat_of_nonneg hr.1]; exact hb)
    have h5 : fwN r (m.on y.1) ≤ 1 + fwN r ((m.on y.1).wi y.2.toNat) := by
      rw [fwN_eq hn (m.on y.1)]
      by_cases hc : coB r (m.on y.1).d = true
      · rw [if_pos hc]; exact Nat.zero_le _
      · rw [if_neg hc]
        exact foldl_min_mem (fun a => 1 + fwN r ((m.on y.1).wi a)) _ _ _ hm
    have h6 := fw_on hn _ m y.1 (by omega) (by omega) (Nat.le_refl _)
    rw [List.length_cons]
    omega
/-- the list of the fewest completes the rite -/
theorem rp_right {r : Rit} (hn : r.n ≤ 16) : ∀ (k : Nat) (m : Mom) (v i : Nat), meN r m ≤ k → fwN r m = v → v < 11 → m.day ≤ r.last → Dones r m (rpL r m v) i ∧ ∀ y ∈ rpL r m v, m.day ≤ y.1 := by
  intro k
  induction k with
  | zero =>
    intro m v i hm h h1 hd
    rcases Nat.eq_zero_or_pos v with h0 | h0
    · subst h0
      exact ⟨⟨rfl, (fw_zero hn m).1 h⟩, fun y hy => by cases hy⟩
    · rcases fw_step hn h h0 h1 with ⟨a, ha, -⟩ | ⟨hd, -⟩
      · have := me_wi ((neS_mem hn).1 ha); omega
      · have := me_on hd; omega
  | succ k ih =>
    intro m v i hm h h1 hd
    rcases Nat.eq_zero_or_pos v with h0 | h0
    · subst h0
      exact ⟨⟨rfl, (fw_zero hn m).1 h⟩, fun y hy => by cases hy⟩
    · cases hf : (elS (neS r m)).find? (fun a => decide (fwN r (m.wi a) = v - 1)) with
      | some a =>
        have h2 : fwN r (m.wi a) = v - 1 := of_decide_eq_true (List.find?_some (p := fun a => decide (fwN r (m.wi a) = v - 1)) hf)
        have hb := (neS_mem hn).1 (List.mem_of_find?_eq_some hf)
        have h3 := me_wi hb
        obtain ⟨h4, h5⟩ := ih (m.wi a) (v - 1) (i + 1) (by omega) h2 (by omega) hd
        rw [rp_some hn h0 hf]
        refine ⟨?_, fun y hy => ?_⟩
        · unfold Dones
          rw [fol_step (y := (m.day, (a : Int))) _ _ (by dsimp only; omega) (by dsimp only; rw [on_same]; exact fun h => h hb)]
          dsimp only
          rw [on_same, Int.toNat_natCast]
          exact h4
        · rcases List.mem_cons.1 hy with rfl | hy
          · exact Int.le_refl _
          · exact h5 y hy
      | none =>
        rcases fw_step hn h h0 h1 with ⟨a, ha, h2⟩ | ⟨hd2, h2⟩
        · have h3 := List.find?_eq_none.1 hf a ha
          simp [h2] at h3
        · rw [rp_none h0 hd2 hf]
          have hme := me_on hd2
          obtain ⟨h4, h5⟩ := ih (m.on (m.day + 1)) v i (by omega) h2 h1 (by rw [on_day]; omega)
          rw [on_day] at h5
          exact ⟨(dones_on (by omega) (fun y hy => by have := h5 y hy; omega) i).1 h4, fun y hy => by have := h5 y hy; omega⟩
/-- acts that are lost: none is settled, and none has a way -/
def LostS (r : Rit) (d : Nat) (day : Int) (X : Nat) : Prop := (∀ i, X.testBit i = true → i < r.n ∧ seB r d i = false) ∧ StaS r day X
theorem hp_lost {r : Rit} (hr : RiOk r) (m : Mom) : LostS r m.d m.day (hpS r m) :=
  ⟨fun i hi => by have h := hp_facts hr hi; exact ⟨h.1, h.2.2⟩, (hp_ho r m).sta⟩
theorem can_day {r : Rit} {a b : Int} (h : a ≤ b) {X i : Nat} (hc : canB r b X i = true) : canB r a X i = true := by
  unfold canB at hc ⊢
  obtain ⟨k, hk, h2⟩ := List.any_eq_true.1 hc
  rw [Bool.and_eq_true, Bool.and_eq_true] at h2
  refine List.any_eq_true.2 ⟨k, hk, ?_⟩
  rw [Bool.and_eq_true, Bool.and_eq_true]
  refine ⟨h2.1, ?_, h2.2.2⟩
  have h3 := h2.2.1
  by_cases h4 : (r.ac k).to_ < b
  · rw [decide_eq_true h4] at h3; cases h3
  · rw [decide_eq_false (by omega)]; rfl
theorem se_or {r : Rit} (hr : RiOk r) {i : Nat} (hi : i < r.n) {d a : Nat} (hd : d < 65536) (ha : a < 16) (h : seB r d i = false) (hw : (waS r i).testBit a = false) : seB r (d ||| 2 ^ a) i = false := by
  have hd2 : d ||| 2 ^ a < 65536 := by
    show d ||| 2 ^ a < 2 ^ 16
    exact Nat.or_lt_two_pow hd (Nat.pow_lt_pow_right (by decide) ha)
  rw [← Bool.not_eq_true]
  intro hs
  have h1 := (wa_se hr hi _ hd2).2 hs
  apply h1
  have h2 : waS r i &&& d = 0 := by
    rcases Nat.eq_zero_or_pos (waS r i &&& d) with h3 | h3
    · exact h3
    · have := (wa_se hr hi d hd).1 (by omega); rw [h] at this; cases this
  rw [and_zero] at h2 ⊢
  intro k hk
  rw [Nat.testBit_or, h2 k hk, Nat.testBit_two_pow, Bool.false_or]
  by_cases e : a = k
  · subst e; rw [hk] at hw; cases hw
  · exact decide_eq_false e
theorem lost_step {r : Rit} (hr : RiOk r) {m : Mom} {X : Nat} (hm : m.d < 65536) (h : LostS r m.d m.day X) {a : Nat} (hb : brF r m.d m.day m.de a = 0) : LostS r (m.wi a).d (m.wi a).day X := by
  refine ⟨fun i hi => ⟨(h.1 i hi).1, ?_⟩, h.2⟩
  have ha := (br_undone hb).1
  have h10 := hr.n10
  obtain ⟨-, -, h2, h3, -⟩ := br_zero hb
  refine se_or hr (h.1 i hi).1 hm (by omega) (h.1 i hi).2 ?_
  rcases hw : (waS r i).testBit a with _ | _
  · rfl
  · exfalso
    have hs := h.2 i hi
    have hc : canB r m.day X i = true := by
      unfold canB
      refine List.any_eq_true.2 ⟨a, List.mem_range.2 ha, ?_⟩
      rw [Bool.and_eq_true, Bool.and_eq_true]
      refine ⟨hw, by rw [decide_eq_false (by omega)]; rfl, List.all_eq_true.2 fun x hx => ?_⟩
      have h6 := List.all_eq_true.1 h3 x hx
      rcases hb2 : X.testBit x.toNat with _ | _
      · rfl
      · rw [(h.1 _ hb2).2] at h6; cases h6
    rw [hs] at hc
    cases hc
/-- what is lost stays lost -/
theorem lost_course {r : Rit} (hr : RiOk r) {X : Nat} : ∀ (x : List (Int × Int)) (m : Mom) (i : Nat), m.d < 65536 → LostS r m.d m.day X → (folF r m x i).2.2 = 0 → LostS r (folF r m x i).1.d (folF r m x i).1.day X
  | [], m, i, _, h, _ => h
  | y :: l, m, i, hm, h, hf => by
    obtain ⟨h1, h2⟩ := fol_zero hf
    have hb : brF r (m.on y.1).d (m.on y.1).day (m.on y.1).de y.2 = 0 := Classical.not_not.1 h2
    have hr1 := br_range hb
    have h10 := hr.n10
    rw [fol_step l i h1 h2] at hf ⊢
    have hl : LostS r (m.on y.1).d (m.on y.1).day X := by
      rw [on_d, on_day]
      refine ⟨h.1, fun k hk => ?_⟩
      rcases hc : canB r y.1 X k with _ | _
      · rfl
      · have h5 := can_day (show m.day ≤ y.1 by omega) hc
        rw [h.2 k hk] at h5
        cases h5
    refine lost_course hr l _ _ ?_ (lost_step hr (by rw [on_d]; exact hm) hl (by rw [Int.toNat_of_nonneg hr1.1]; exact hb)) hf
    show (m.on y.1).d ||| 2 ^ y.2.toNat < 2 ^ 16
    rw [on_d]
    exact Nat.or_lt_two_pow hm (Nat.pow_lt_pow_right (by decide) (by omega))
theorem co_se {r : Rit} {d : Nat} (h : coB r d = true) {i : Nat} (hi : i < r.n) : (r.ac i).ex = true ∨ seB r d i = true := by
  have h1 := List.all_eq_true.1 h i (List.mem_range.2 hi)
  rw [Bool.or_eq_true] at h1
  exact h1
/-- where the rite can be completed no act that must be done is hopeless -/
theorem fw_hope {r : Rit} (hr : RiOk r) {m : Mom} (hm : m.d < 65536) (hd : m.day ≤ r.last) (h : fwN r m < 11) {i : Nat} (hi : (hpS r m).testBit i = true) : (r.ac i).ex = true := by
  have hn : r.n ≤ 16 := by have := hr.n10; omega
  obtain ⟨⟨h1, h2⟩, -⟩ := rp_right hn _ m _ 0 (Nat.le_refl _) rfl h hd
  have h3 := lost_course hr _ m 0 hm (hp_lost hr m) h1
  obtain ⟨h4, h5⟩ := h3.1 i hi
  rcases co_se h2 h4 with h6 | h6
  · exact h6
  · rw [h5] at h6; cases h6
/-- behind a right course: right and whole, from the moment on -/
theorem rg_dones {r : Rit} {l : List (Int × Int)} (h : rgB r l = true) (x : List (Int × Int)) : (rgB r (l ++ x) = true ∧ coB r (folF r m0 (l ++ x) 0).1.d = true) ↔ Dones r (folF r m0 l 0).1 x (0 + l.length) := by
  obtain ⟨hr, hf, -⟩ := rg_yes h
  unfold Dones rgB aftC
  rw [if_pos hr, fol_append _ _ _ _ hf, decide_eq_true_iff]
  constructor
  · rintro ⟨h1, h2⟩
    refine ⟨?_, h2⟩
    split at h1
    · assumption
    · cases h1
  · rintro ⟨h1, h2⟩
    rw [if_pos h1]
    exact ⟨rfl, h2⟩
/-- the deeds that Repair finds -/
theorem repair_whole {r : Rit} {l : List (Int × Int)} (hr : RiOk r) (h : rgB r l = true) {day : Int} (h0 : (folF r m0 l 0).1.day ≤ day) (h1 : day ≤ r.last) (hv : fwN r ((folF r m0 l 0).1.on day) < 11) :
    (rgB r (l ++ rpL r ((folF r m0 l 0).1.on day) (fwN r ((folF r m0 l 0).1.on day))) = true ∧ coB r (folF r m0 (l ++ rpL r ((folF r m0 l 0).1.on day) (fwN r ((folF r m0 l 0).1.on day))) 0).1.d = true) ∧
      (∀ y ∈ rpL r ((folF r m0 l 0).1.on day) (fwN r ((folF r m0 l 0).1.on day)), day ≤ y.1) ∧
      ∀ less : List (Int × Int), (∀ y ∈ less, day ≤ y.1) → less.length < (rpL r ((folF r m0 l 0).1.on day) (fwN r ((folF r m0 l 0).1.on day))).length → ¬ (rgB r (l ++ less) = true ∧ coB r (folF r m0 (l ++ less) 0).1.d = true) := by
  have hn : r.n ≤ 16 := by have := hr.n10; omega
  generalize hm : (folF r m0 l 0).1 = m at *
  obtain ⟨h2, h3⟩ := rp_right hn _ (m.on day) _ (0 + l.length) (Nat.le_refl _) rfl hv (by rw [on_day]; exact h1)
  rw [on_day] at h3
  have hlen := rp_len hn _ (m.on day) _ (Nat.le_refl _) rfl hv
  refine ⟨(rg_dones h _).2 (by rw [hm]; exact (dones_on h0 h3 _).1 h2), h3, fun less hless hlt hd => ?_⟩
  have h4 := (rg_dones h less).1 hd
  rw [hm] at h4
  have h5 := fw_course hn less _ _ ((dones_on h0 hless _).2 h4)
  omega
end Go.Proofs.YtcgdalabenflmaaDoor
