/- Rite: Latest, walked. -/
import Derived.Test.YtcgdalabenflmaaDoorOpensE
import Derived.Shelf.Strings.Builder1
import Derived.Shelf.Strconv.Itoa4
import Derived.Ground.NamesProg
import Derived.Test.YtcgdalabenflmaaDoorChecked
set_option linter.unusedSimpArgs false
set_option linter.unusedVariables false
set_option linter.unnecessarySimpa false
namespace Go.Proofs.YtcgdalabenflmaaDoor
open Go Go.RowKit Go.Shelf
set_option maxHeartbeats 8000000
set_option maxRecDepth 100000
/-- the last day from which on a rite can be completed -/
def LatR (r : Rit) (m : Mom) (x : Int) : Prop := (m.day ≤ x ∧ x ≤ r.last ∧ fwN r (m.on x) < 11) ∧ ∀ y, x < y → y ≤ r.last → ¬ fwN r (m.on y) < 11
def LatPost (w : World) (r : Rit) (l : List (Int × Int)) (e : Ending) (w' : World) : Prop :=
  (aftC r l ≠ 0 ∧ e = .returned (.tuple #[.int .i64 0, .int .i64 (aftC r l)]) ∨ aftC r l = 0 ∧ riB r = true ∧
    ((∃ x, LatR r (folF r m0 l 0).1 x ∧ e = .returned (.tuple #[.int .i64 x, .int .i64 0])) ∨
     (∀ y, (folF r m0 l 0).1.day ≤ y → y ≤ r.last → ¬ fwN r ((folF r m0 l 0).1.on y) < 11) ∧ e = .returned (.tuple #[.int .i64 0, .int .i64 7]))) ∧ Below w.heap.size w w'
theorem latest_rite (d : Rad) (r : Rit) (A : Option Addr) (c : Nat) (l : List (Int × Int)) (w : World) (hd : RtR w d r) (hz : RtZ r) (hl : l.length ≤ 1000000) (hD : DsR w A l) (hT : TB w) :
    Calls Tryd.prog 14 #[.agg #[.slice d.A r.n d.c, .int .i64 r.last, .int .i64 r.toil], .slice A l.length c] w (LatPost w r l) := by
  have HTB := hide hT
  have HB1 : Hid (Below w.heap.size w (w.alloc (.cells #[.slice d.A r.n d.c, .int .i64 r.last, .int .i64 r.toil] 24))) := hide ((Below.refl _ _).alloc (Nat.le_refl _) _)
  have G1 := hide (Blk.new w 24 #[.slice d.A r.n d.c, .int .i64 r.last, .int .i64 r.toil])
  have HRT := hide (hd.ext HB1.out)
  have HD := hide (hD.ext HB1.out)
  have HO := hide (after_any d r A c l _ HRT.out hz hl HD.out)
  have HFM : Hid (riB r = true → MoOk r (folF r m0 l 0).1) := hide fun h1 => fol_ok (riB_ok h1) l m0 0 (m0_ok (riB_ok h1))
  clear hd hz hD hl hT
  obtain ⟨ec, hec⟩ : ∃ x, aftC r l = x := ⟨_, rfl⟩
  unfold LatPost
  unfold AfterPost at HO
  rw [hec] at HO ⊢
  clear hec
  obtain ⟨mo, hmo⟩ : ∃ x, (folF r m0 l 0).1 = x := ⟨_, rfl⟩
  rw [hmo] at HFM HO ⊢
  clear hmo
  have HRE := hide (fun fb b mp q m W (h1 : riB r = true) (h2 : MoOk r m) (h : FwR W fb b mp d q r) => few_any fb b mp d q r (riB_ok h1) (meN r m + 1) m W (Nat.lt_succ_self _) h2 h)
  unfold FewPost at HRE
  obtain ⟨oD, oday, ode⟩ := mo
  have HON : Hid (∀ (x : Int) W, Calls Tryd.prog 42 #[.agg #[.int .u16 (oD : Nat), .int .i64 oday, .int .i64 ode], .int .i64 x] W fun e w' => e = .returned (momV (Mom.on ⟨oD, oday, ode⟩ x)) ∧ Below W.heap.size W w') := hide (fun x W => on_any ⟨oD, oday, ode⟩ x W)
  have hmv : momV ⟨oD, oday, ode⟩ = .agg #[.int .u16 (oD : Nat), .int .i64 oday, .int .i64 ode] := rfl
  have hmv0 : momV m0 = .agg #[.int .u16 0, .int .i64 0, .int .i64 0] := rfl
  rw [hmv, hmv0] at HO
  obtain ⟨la, hla⟩ : ∃ x, r.last = x := ⟨_, rfl⟩
  have HLA := hide hla
  have HLT : Hid (∀ x, LatR r ⟨oD, oday, ode⟩ x ↔ ((oday ≤ x ∧ x ≤ la ∧ fwN r (Mom.on ⟨oD, oday, ode⟩ x) < 11) ∧ ∀ y, x < y → y ≤ la → ¬ fwN r (Mom.on ⟨oD, oday, ode⟩ y) < 11)) := hide fun x => by unfold LatR; rw [hla]
  dsimp only
  clear hmv hmv0 hla
  go_enter Tryd.func14, Tryd.ntmps14
  go_upto_region 1 with fail
  generalize w.alloc (.cells #[.slice d.A r.n d.c, .int .i64 r.last, .int .i64 r.toil] 24) = w1 at HB1 G1 HO HD HRT ⊢
  obtain ⟨G, hG⟩ : ∃ x, w.heap.size = x := ⟨_, rfl⟩
  rw [hG] at G1 ⊢
  clear hG
  obtain ⟨g9, g0, g1, g2, -⟩ := blk3 G1.out
  go_wp2_with fail
  refine HO.out.mono ?_
  rintro e w2 ⟨⟨hc, rfl⟩ | ⟨hc, hb, b, ad, rfl, hB⟩, hbl⟩
  · have HBL := hide (HB1.out.trans (hbl.mono HB1.out.size))
    have HCH := hide hc
    have hb4 : Below w2.heap.size w2 (w2.alloc (.cells #[.int .u16 0, .int .i64 0, .int .i64 0] 77)) := (Below.refl _ _).alloc (Nat.le_refl _) _
    replace HBL := hide (HBL.out.trans (hb4.mono HBL.out.size))
    have e2 : (ec != 0) = true := by rw [bne_iff_ne]; exact HCH.out
    clear hc hbl g9 g0 g1 g2 HO HD hb4
    go_wp2_with fail
    go_ret2
    exact ⟨.inl ⟨HCH.out, rfl⟩, HBL.out⟩
  · obtain rfl := hc
    have HBL := hide (HB1.out.trans (hbl.mono HB1.out.size))
    have HRB := hide hb
    have HMO := hide (HFM.out hb)
    have HR2 := hide (fun fb mp q m W h => HRE.out fb b mp q m W hb h)
    clear HFM HRE
    have hb4 : Below w2.heap.size w2 (w2.alloc (.cells #[.int .u16 (oD : Nat), .int .i64 oday, .int .i64 ode] 77)) := (Below.refl _ _).alloc (Nat.le_refl _) _
    have Q3 := hide (Blk.new w2 77 #[.int .u16 (oD : Nat), .int .i64 oday, .int .i64 ode])
    obtain ⟨q, hbk⟩ : ∃ q, BkR (w2.alloc (.cells #[.int .u16 (oD : Nat), .int .i64 oday, .int .i64 ode] 77)) b d q r := ⟨_, (hB.ext hb4).book HRT.out⟩
    have HBK := hide hbk
    replace HBL := hide (HBL.out.trans (hb4.mono HBL.out.size))
    clear hbl hb hB g9 g0 g1 g2 HO HD hb4 hbk
    have hmm := @run_makeMap Tryd.prog
    go_upto_region 5 with fail
    obtain ⟨w4, hw4⟩ : ∃ x, w2.alloc (.cells #[.int .u16 (oD : Nat), .int .i64 oday, .int .i64 ode] 77) = x := ⟨_, rfl⟩
    have hs4 : w4.heap.size = w2.heap.size + 1 := by rw [← hw4]; simp
    rw [hw4] at HBK HBL Q3 ⊢
    clear hw4 hmm
    obtain ⟨M, hM⟩ : ∃ x, w2.heap.size = x := ⟨_, rfl⟩
    rw [hM] at Q3 hs4 ⊢
    have HM := hide hM
    clear hM
    have hb5 : Below w4.heap.size w4 ((w4.alloc (.map #[] 0)).alloc (.cells #[.pointer (some ⟨b, 0, none⟩), .map (some (M + 1))] 83)) := ((Below.refl _ _).alloc (Nat.le_refl _) _).alloc (by simp) _
    have FB : Blk ((w4.alloc (.map #[] 0)).alloc (.cells #[.pointer (some ⟨b, 0, none⟩), .map (some (M + 1))] 83)) (M + 1 + 1) 83 #[.pointer (some ⟨b, 0, none⟩), .map (some (M + 1))] := by
      have h := Blk.new (w4.alloc (.map #[] 0)) 83 #[.pointer (some ⟨b, 0, none⟩), .map (some (M + 1))]
      rw [World.size_alloc, hs4] at h
      exact h
    have FM : FmAt ((w4.alloc (.map #[] 0)).alloc (.cells #[.pointer (some ⟨b, 0, none⟩), .map (some (M + 1))] 83)) (M + 1) r := by
      have h := (FmAt.made w4 r).ext ((Below.refl (w4.alloc (.map #[] 0)).heap.size _).alloc (Nat.le_refl _) (.cells #[.pointer (some ⟨b, 0, none⟩), .map (some (M + 1))] 83))
      rw [hs4] at h
      exact h
    replace HBK := hide (HBK.out.ext hb5)
    replace Q3 := hide (Q3.out.ext hb5)
    have HLO : Hid (w.heap.size ≤ M + 1) := hide (by have := HBL.out.size; omega)
    replace HBL := hide (HBL.out.trans (hb5.mono HBL.out.size))
    have HF := hide (show FwR ((w4.alloc (.map #[] 0)).alloc (.cells #[.pointer (some ⟨b, 0, none⟩), .map (some (M + 1))] 83)) (M + 1 + 1) b (M + 1) d q r from ⟨HBK.out, FB, FM, HTB.out.ext HBL.out⟩)
    clear hs4 hb5 FB FM
    generalize ((w4.alloc (.map #[] 0)).alloc (.cells #[.pointer (some ⟨b, 0, none⟩), .map (some (M + 1))] 83)) = w6 at HBK Q3 HBL HF ⊢
    have u1 := (bx8 HBK.out.blk).2.2.1
    rw [HLA.out] at u1
    have hl30 := (riB_ok HRB.out).l30
    have hd0 := HMO.out.d0
    have hd1 := HMO.out.d1
    rw [HLA.out] at hl30 hd1
    dsimp only at hd0 hd1
    go_wp2_with fail
    clear u1
    go_loopw [10] (fun i wr => ∃ x : Int, i = .int .i64 x ∧ oday - 1 ≤ x ∧ x ≤ la ∧ Hid (∀ y, x < y → y ≤ la → ¬ fwN r (Mom.on ⟨oD, oday, ode⟩ y) < 11) ∧ Hid (FwR wr (M + 1 + 1) b (M + 1) d q r) ∧ Hid (w6.grownBy wr (some (M + 1)))) (fun i _ => ((intOf i) - oday + 1).toNat)
    case atStart => exact ⟨la, rfl, by omega, Int.le_refl _, hide (fun y h1 h2 => by omega), HF, hide (World.grownBy.refl _ _)⟩
    case round =>
      obtain ⟨x, rfl, hx0, hx1, HX, HFR, HGB⟩ := hrel
      have k3 := (KC.map HF.out.fm HGB.out).blk Q3.out
      obtain ⟨x9, y0, y1, y2, -⟩ := blk3 k3
      by_cases hge : x ≥ oday
      · have HC := hide (fun W (h : FwR W (M + 1 + 1) b (M + 1) d q r) => HR2.out (M + 1 + 1) (M + 1) q (Mom.on ⟨oD, oday, ode⟩ x) W (HMO.out.on (riB_ok HRB.out) (by omega) (by rw [HLA.out]; exact hx1)) h)
        obtain ⟨v, hv⟩ : ∃ z, fwN r (Mom.on ⟨oD, oday, ode⟩ x) = z := ⟨_, rfl⟩
        have HV := hide hv
        have hst : IntKind.i64.wrap (x - 1) = x - 1 := IntWalk.i64_in _ (by omega)
        clear hv
        go_wp2_with fail
        refine (HON.out x wr).mono ?_
        rintro e w7 ⟨rfl, h7⟩
        clear x9 y0 y1 y2 k3
        go_wp2_with fail
        refine (HC.out w7 (HFR.out.ext h7)).mono ?_
        rintro e w8 ⟨rfl, h8, g8⟩
        rw [HV.out]
        have HG8 := hide (gr_trans HGB.out (gr_trans (gr_below h7 (M + 1)) g8))
        have HF8 := hide h8
        clear h7 h8 g8
        by_cases hlt : v < 11
        · have hlt' : (v : Int) < 11 := by omega
          have HLL := hide hlt
          clear hlt
          go_wp2_with fail
          go_ret2
          exact ⟨⟨HRB.out, .inl ⟨x, (HLT.out x).2 ⟨⟨hge, hx1, by rw [HV.out]; exact HLL.out⟩, HX.out⟩, rfl⟩⟩, gr_low HBL.out HBL.out.size HG8.out HLO.out⟩
        · have hlt' : ¬ (v : Int) < 11 := by omega
          have HLL := hide hlt
          clear hlt
          go_wp2_with fail
          go_roundw
          case rel => exact ⟨x - 1, by go_num, by omega, by omega, hide (fun y h1 h2 => by
            by_cases h : x < y
            · exact HX.out y h h2
            · rw [show y = x by omega, HV.out]; exact HLL.out), HF8, HG8⟩
          case measure => simp [intOf]; omega
      · go_wp2_with fail
        go_ret2
        exact ⟨⟨HRB.out, .inr ⟨fun y h1 h2 => by have h3 := HX.out y (by omega) (by rw [← HLA.out]; exact h2); omega, rfl⟩⟩, gr_low HBL.out HBL.out.size HGB.out HLO.out⟩
end Go.Proofs.YtcgdalabenflmaaDoor
/- Layings of library functions, in plain declarations (written by the kit's lay-plain.mjs). -/
namespace Go.Proofs.YtcgdalabenflmaaDoor
open Go.Shelf
def lays169_ren : Go.Shelf.Ren := ⟨fun | 169 => 61 | n => n, fun | 70 => 109 | 9 => 9 | 0 => 0 | 72 => 112 | 37 => 110 | 127 => 129 | 3 => 3 | 5 => 5 | n => n, fun | n => n⟩
theorem lays169 : Go.Proofs.Lays.n169 Tryd.prog lays169_ren := {
  mixed := by kernel_rfl
  f169 := Tryd.func61.trans (congrArg some (by kernel_rfl))
  t0 := Tryd.underlying0
  a0 := Tryd.isAgg0
  z0 := Tryd.sizeOf0
  v0 := Tryd.zeroValue0
  t3 := Tryd.underlying3
  a3 := Tryd.isAgg3
  z3 := Tryd.sizeOf3
  v3 := Tryd.zeroValue3
  t9 := Tryd.underlying9
  a9 := Tryd.isAgg9
  z9 := Tryd.sizeOf9
  v9 := Tryd.zeroValue9
  t37 := Tryd.underlying110
  a37 := Tryd.isAgg110
  z37 := Tryd.sizeOf110
  v37 := Tryd.zeroValue110
  t70 := Tryd.underlying109
  a70 := Tryd.isAgg109
  z70 := Tryd.sizeOf109
  v70 := Tryd.zeroValue109
  t72 := Tryd.underlying112
  a72 := Tryd.isAgg112
  z72 := Tryd.sizeOf112
  v72 := Tryd.zeroValue112
  t127 := Tryd.underlying129
  a127 := Tryd.isAgg129
  z127 := Tryd.sizeOf129
  v127 := Tryd.zeroValue129 }
def lays171_ren : Go.Shelf.Ren := ⟨fun | 171 => 60 | 243 => 75 | 246 => 79 | 283 => 87 | 284 => 88 | 285 => 89 | 286 => 90 | 129 => 96 | 317 => 95 | 318 => 97 | 319 => 98 | 320 => 99 | 337 => 103 | 338 => 104 | n => n, fun | 3 => 3 | 9 => 9 | 2 => 2 | 4 => 4 | 171 => 145 | 0 => 0 | 53 => 146 | 37 => 110 | 5 => 5 | 173 => 149 | 212 => 157 | 51 => 136 | 20 => 20 | 213 => 158 | 46 => 137 | 232 => 135 | 233 => 169 | n => n, fun | 17 => 1 | 18 => 0 | 19 => 4 | n => n⟩
theorem lays171 : Go.Proofs.Lays.n171 Tryd.prog lays171_ren := {
  mixed := by kernel_rfl
  f129 := Tryd.func96.trans (congrArg some (by kernel_rfl))
  f171 := Tryd.func60.trans (congrArg some (by kernel_rfl))
  f243 := Tryd.func75.trans (congrArg some (by kernel_rfl))
  f246 := Tryd.func79.trans (congrArg some (by kernel_rfl))
  f283 := Tryd.func87.trans (congrArg some (by kernel_rfl))
  f284 := Tryd.func88.trans (congrArg some (by kernel_rfl))
  f285 := Tryd.func89.trans (congrArg some (by kernel_rfl))
  f286 := Tryd.func90.trans (congrArg some (by kernel_rfl))
  f317 := Tryd.func95.trans (congrArg some (by kernel_rfl))
  f318 := Tryd.func97.trans (congrArg some (by kernel_rfl))
  f319 := Tryd.func98.trans (congrArg some (by kernel_rfl))
  f320 := Tryd.func99.trans (congrArg some (by kernel_rfl))
  f337 := Tryd.func103.trans (congrArg some (by kernel_rfl))
  f338 := Tryd.func104.trans (congrArg some (by kernel_rfl))
  t0 := Tryd.underlying0
  a0 := Tryd.isAgg0
  z0 := Tryd.sizeOf0
  v0 := Tryd.zeroValue0
  t2 := Tryd.underlying2
  a2 := Tryd.isAgg2
  z2 := Tryd.sizeOf2
  v2 := Tryd.zeroValue2
  t3 := Tryd.underlying3
  a3 := Tryd.isAgg3
  z3 := Tryd.sizeOf3
  v3 := Tryd.zeroValue3
  t4 := Tryd.underlying4
  a4 := Tryd.isAgg4
  z4 := Tryd.sizeOf4
  v4 := Tryd.zeroValue4
  t5 := Tryd.underlying5
  a5 := Tryd.isAgg5
  z5 := Tryd.sizeOf5
  v5 := Tryd.zeroValue5
  t9 := Tryd.underlying9
  a9 := Tryd.isAgg9
  z9 := Tryd.sizeOf9
  v9 := Tryd.zeroValue9
  t20 := Tryd.underlying20
  a20 := Tryd.isAgg20
  z20 := Tryd.sizeOf20
  v20 := Tryd.zeroValue20
  t37 := Tryd.underlying110
  a37 := Tryd.isAgg110
  z37 := Tryd.sizeOf110
  v37 := Tryd.zeroValue110
  t46 := Tryd.underlying137
  a46 := Tryd.isAgg137
  z46 := Tryd.sizeOf137
  v46 := Tryd.zeroValue137
  t51 := Tryd.underlying136
  a51 := Tryd.isAgg136
  z51 := Tryd.sizeOf136
  v51 := Tryd.zeroValue136
  t53 := Tryd.underlying146
  a53 := Tryd.isAgg146
  z53 := Tryd.sizeOf146
  v53 := Tryd.zeroValue146
  t171 := Tryd.underlying145
  a171 := Tryd.isAgg145
  z171 := Tryd.sizeOf145
  v171 := Tryd.zeroValue145
  t173 := Tryd.underlying149
  a173 := Tryd.isAgg149
  z173 := Tryd.sizeOf149
  v173 := Tryd.zeroValue149
  t212 := Tryd.underlying157
  a212 := Tryd.isAgg157
  z212 := Tryd.sizeOf157
  v212 := Tryd.zeroValue157
  t213 := Tryd.underlying158
  a213 := Tryd.isAgg158
  z213 := Tryd.sizeOf158
  t232 := Tryd.underlying135
  a232 := Tryd.isAgg135
  z232 := Tryd.sizeOf135
  v232 := Tryd.zeroValue135
  t233 := Tryd.underlying169
  a233 := Tryd.isAgg169
  z233 := Tryd.sizeOf169
  v233 := Tryd.zeroValue169
  g17 := by kernel_rfl
  g18 := by kernel_rfl
  g19 := by kernel_rfl }
end Go.Proofs.YtcgdalabenflmaaDoor
/- The laying of strings.Builder.WriteString: the kit's own command leaves it out where no body names the empty interface. -/
namespace Go.Proofs.YtcgdalabenflmaaDoor
open Go Go.RowKit Go.Shelf
def lays166_ren : Go.Shelf.Ren := ⟨fun | 166 => 59 | 240 => 74 | 276 => 78 | n => n, fun | 0 => 0 | 3 => 3 | 4 => 4 | 9 => 9 | 20 => 20 | 37 => 110 | 70 => 109 | 72 => 112 | 75 => 114 | 164 => 132 | 80 => 118 | 5 => 5 | n => n, fun | n => n⟩
theorem lays166 : Go.Proofs.Lays.n166 Tryd.prog lays166_ren := {
  mixed := by kernel_rfl
  f166 := Tryd.func59.trans (congrArg some (by kernel_rfl))
  f240 := Tryd.func74.trans (congrArg some (by kernel_rfl))
  f276 := Tryd.func78.trans (congrArg some (by kernel_rfl))
  t0 := Tryd.underlying0
  a0 := Tryd.isAgg0
  z0 := Tryd.sizeOf0
  v0 := Tryd.zeroValue0
  t3 := Tryd.underlying3
  a3 := Tryd.isAgg3
  z3 := Tryd.sizeOf3
  v3 := Tryd.zeroValue3
  t4 := Tryd.underlying4
  a4 := Tryd.isAgg4
  z4 := Tryd.sizeOf4
  v4 := Tryd.zeroValue4
  t9 := Tryd.underlying9
  a9 := Tryd.isAgg9
  z9 := Tryd.sizeOf9
  v9 := Tryd.zeroValue9
  t20 := Tryd.underlying20
  a20 := Tryd.isAgg20
  z20 := Tryd.sizeOf20
  v20 := Tryd.zeroValue20
  t37 := Tryd.underlying110
  a37 := Tryd.isAgg110
  z37 := Tryd.sizeOf110
  v37 := Tryd.zeroValue110
  t70 := Tryd.underlying109
  a70 := Tryd.isAgg109
  z70 := Tryd.sizeOf109
  v70 := Tryd.zeroValue109
  t72 := Tryd.underlying112
  a72 := Tryd.isAgg112
  z72 := Tryd.sizeOf112
  v72 := Tryd.zeroValue112
  t75 := Tryd.underlying114
  a75 := Tryd.isAgg114
  z75 := Tryd.sizeOf114
  v75 := Tryd.zeroValue114
  t164 := Tryd.underlying132
  a164 := Tryd.isAgg132
  z164 := Tryd.sizeOf132
  v164 := Tryd.zeroValue132 }
theorem bld_extra : Go.Proofs.Builder.Extra Tryd.prog lays166_ren := {
  sizeBuilder := by kernel_rfl
  liesBuilder := by kernel_rfl
  t5 := Tryd.underlying5
  a5 := Tryd.isAgg5
  z5 := Tryd.sizeOf5
  v5 := Tryd.zeroValue5
  infoByte := by kernel_rfl
  cellsByte := by kernel_rfl
  sizeByte := by kernel_rfl
  neB5 := by decide }
theorem bld_extra2 : Go.Proofs.Builder.Extra Tryd.prog lays169_ren := {
  sizeBuilder := by kernel_rfl
  liesBuilder := by kernel_rfl
  t5 := Tryd.underlying5
  a5 := Tryd.isAgg5
  z5 := Tryd.sizeOf5
  v5 := Tryd.zeroValue5
  infoByte := by kernel_rfl
  cellsByte := by kernel_rfl
  sizeByte := by kernel_rfl
  neB5 := by decide }
theorem wstr_any (B b : Nat) (bs : List Value) (s : ByteArray) (w : World) (h : Lib.IsBuilder 112 5 B b bs w) (hlen : bs.length + s.size ≤ 140737488355328) (hBw : B ≤ w.heap.size) :
    Calls Tryd.prog 59 #[.pointer (some ⟨b, 0, none⟩), .string s] w fun e w' => e = .returned (.tuple #[.int .i64 s.size, .nilIface]) ∧ Lib.IsBuilder 112 5 B b (bs ++ Lib.strCells s) w' ∧ Below B w w' := by
  refine (Any.Builder_WriteString lays166 bld_extra B b bs s w h hlen hBw).mono ?_
  rintro e w' ⟨rfl, h1, h2⟩
  exact ⟨rfl, .inr h1, h2⟩
theorem cc_any (B b : Nat) (bs : List Value) (w : World) (h : Lib.IsBuilder 112 5 B b bs w) :
    Calls Tryd.prog 74 #[.pointer (some ⟨b, 0, none⟩)] w fun e w' => e = .returned (.tuple #[]) ∧ Lib.BuilderAt 112 5 B b (.pointer (some ⟨b, 0, none⟩)) bs w' ∧ Below B w w' ∧ w.grownBy w' (some b) := by
  have L : Lays.n240 Tryd.prog lays166_ren := { lays166 with }
  rcases h with h | h
  · refine (Any.Builder_copyCheck_fresh L bld_extra.toX72 b w h.cell0 h.shape h.frozen0).mono ?_
    rintro e w' ⟨rfl, rfl⟩
    exact ⟨rfl, h.used _, (Below.refl B w).setCell (p := ⟨b, 0, none⟩) h.1 _, grownBy_setC w b 0 _⟩
  · refine (Any.Builder_copyCheck_used L bld_extra.toX72 b w h.cell0).mono ?_
    rintro e w' ⟨rfl, rfl⟩
    exact ⟨rfl, h, Below.refl B _, World.grownBy.refl _ _⟩
/-- blocks of other types stay -/
def KeepT (w w' : World) : Prop := ∀ (k : Nat) (t : TypeId) (cs : Array Value), Blk w k t cs → t ≠ 112 → t ≠ 5 → Blk w' k t cs
theorem wstr2_any (B b : Nat) (bs : List Value) (s : ByteArray) (w : World) (h : Lib.IsBuilder 112 5 B b bs w) (hlen : bs.length + s.size ≤ 140737488355328) (hBw : B ≤ w.heap.size) :
    Calls Tryd.prog 59 #[.pointer (some ⟨b, 0, none⟩), .string s] w fun e w' => e = .returned (.tuple #[.int .i64 s.size, .nilIface]) ∧ Lib.IsBuilder 112 5 B b (bs ++ Lib.strCells s) w' ∧ Below B w w' ∧ KeepT w w' := by
  obtain ⟨i0, hi, hz0, hz1, hz2⟩ := info_parts bld_extra.infoByte
  have HCC := hide (cc_any B b bs w h)
  have hBlk : ∃ cs, Blk w b 112 cs := by rcases h with ⟨-, v, h, -⟩ | ⟨-, v, h, -⟩ <;> exact ⟨_, h⟩
  have HBK := hide hBlk
  clear h hBlk
  go_enter Tryd.func59, Tryd.ntmps59
  go_wp2_with fail
  refine HCC.out.mono ?_
  rintro e w1 ⟨rfl, h1, hb1, hg1⟩
  obtain ⟨hB, v, hbk, hown, hne⟩ := h1
  have c0 : w1.cell? ⟨b, 0, none⟩ = some (.pointer (some ⟨b, 0, none⟩)) := by rw [Lib.cell_of_heap hbk]; rfl
  have c1 : w1.cell? ⟨b, 1, none⟩ = some v := by rw [Lib.cell_of_heap hbk]; rfl
  go_wp2_with (at_builtin; refine Lib.wpList_append_own_string _ rfl _ _ 110 9 rfl B 5 i0 Tryd.underlying110 Tryd.underlying9 hi hz0 hz1 hz2 _ _ _ rfl hown s rfl ?c3 ?c4 ?c5 ?_)
  case c3 => unfold maxLen; omega
  case c4 => omega
  case c5 => have := hb1.size; omega
  intro v' w2 hown' hgrow _
  have hlt : b < w1.heap.size := Blk.lt (t := 112) hbk
  have hb2 : w2.heap[b]? = some (.cells #[.pointer (some ⟨b, 0, none⟩), v] 112 (0, 0)) := by
    rw [hgrow.block b hlt (fun e => hne e.symm)]
    exact hbk
  have d0 : w2.cell? ⟨b, 0, none⟩ = some (.pointer (some ⟨b, 0, none⟩)) := by rw [Lib.cell_of_heap hb2]; rfl
  have d1 : w2.cell? ⟨b, 1, none⟩ = some v := by rw [Lib.cell_of_heap hb2]; rfl
  have f1 : w2.frozen? ⟨b, 1, none⟩ = false := Lib.frozen_of_heap hb2 1
  obtain ⟨ao, n', cap, rfl⟩ : ∃ ao n' cap, v' = .slice ao n' cap := by
    rcases hown'.2 with ⟨hv, _⟩ | ⟨g, cap, cur, hv, _⟩
    · exact ⟨_, _, _, hv⟩
    · exact ⟨_, _, _, hv⟩
  go_wp2_with fail
  go_ret2
  refine ⟨rfl, .inr ?_, ?_, ?_⟩
  · exact Lib.BuilderAt.put (T := 112) (e := 5) hB hb2 (bs' := bs ++ Lib.strCells s) (by simpa [Lib.strCells_length] using hown') bld_extra.neB5
  · exact (hb1.grown hgrow (by have := hb1.size; omega) (fun k hk => (hown.lt k hk).1)).setCell (p := ⟨b, 1, none⟩) hB _
  · intro k t cs hk h5 h6
    obtain ⟨cs0, hk0⟩ := HBK.out
    have hkb : k ≠ b := hk.ne_ hk0 h5
    have k1 := hk.grown hg1 (fun e => by injection e with e; exact hkb e)
    have k2 := k1.grown hgrow (fun e => own_blk_ne hown k1 (fun e => h6 e.symm) e.symm)
    exact k2.far (p := ⟨b, 1, none⟩) hkb _
theorem bstr_any (B b : Nat) (l : List UInt8) (w : World) (h : Lib.IsBuilder 112 5 B b (Lib.byteCells l) w) (hBw : B ≤ w.heap.size) :
    Calls Tryd.prog 61 #[.pointer (some ⟨b, 0, none⟩)] w fun e w' => e = .returned (.string ⟨l.toArray⟩) ∧ Below B w w' :=
  Any.Builder_String_any lays169 bld_extra2 B b l w h hBw
theorem itoa_any (i : Nat) (hi : i < 100) (w : World) :
    Calls Tryd.prog 60 #[.int .i64 i] w fun e w' => e = .returned (.string ⟨(Lib.decDigits i).toArray⟩) ∧ w = w' := by
  refine (Any.strconv_Itoa_small lays171 i hi w).mono ?_
  rintro e w' ⟨h1, h2⟩
  exact ⟨h1, h2.symm⟩
end Go.Proofs.YtcgdalabenflmaaDoor
/- Rite: Write, walked. -/
namespace Go.Proofs.YtcgdalabenflmaaDoor
open Go Go.RowKit Go.Shelf
set_option maxHeartbeats 8000000
set_option maxRecDepth 100000
theorem dec_len {u : Nat} (h : u < 100) : (Lib.decDigits u).length ≤ 2 := by
  rw [Lib.decDigits]
  split
  · simp
  · rw [Lib.decDigits, dif_pos (by omega)]
    simp
/-- a deed's line, a course's text -/
def wrC (r : Rit) (t : Int × Int) : List UInt8 := ((Lib.decDigits t.1.toNat ++ [32]) ++ (r.ac t.2.toNat).nm.data.toList) ++ [10]
def wrT (r : Rit) (l : List (Int × Int)) : List UInt8 := l.flatMap (wrC r)
theorem wrT_next {r : Rit} {l : List (Int × Int)} {k : Nat} (hk : k < l.length) : wrT r (l.take (k + 1)) = wrT r (l.take k) ++ wrC r (l.getD k (0, 0)) := by
  unfold wrT
  rw [List.take_add_one, List.getElem?_eq_getElem hk, List.getD_eq_getElem?_getD, List.getElem?_eq_getElem hk]
  simp only [List.flatMap_append, List.flatMap_cons, List.flatMap_nil, List.append_nil, Option.toList, Option.getD]
/-- deeds of a right course: of acts that there are, on days that there are -/
theorem fol_deeds {r : Rit} (hr : RiOk r) : ∀ (l : List (Int × Int)) (m : Mom) (i : Nat), MoOk r m → (folF r m l i).2.2 = 0 → ∀ x ∈ l, (0 ≤ x.1 ∧ x.1 ≤ r.last) ∧ 0 ≤ x.2 ∧ x.2 < r.n
  | [], _, _, _, _, x, h => by cases h
  | y :: l, m, i, hm, hf, x, h => by
    unfold folF at hf
    split at hf
    · cases hf
    · rename_i hx
      have h0 := hm.d0
      have h1 := hm.on hr (day := y.1) (by omega) (by omega)
      split at hf
      · rename_i hb; exact absurd hf hb
      · rename_i hb
        have hb : brF r (m.on y.1).d (m.on y.1).day (m.on y.1).de y.2 = 0 := Classical.not_not.1 hb
        have h2 := br_range hb
        rcases List.mem_cons.1 h with rfl | h
        · exact ⟨⟨by omega, by omega⟩, h2⟩
        · refine fol_deeds hr l _ _ (h1.wi hr ?_) hf x h
          rw [Int.toNat_of_nonneg h2.1]
          exact hb
theorem aftC_ok {r : Rit} {l : List (Int × Int)} (h : aftC r l = 0) : riB r = true ∧ (folF r m0 l 0).2.2 = 0 := by
  unfold aftC at h
  split at h
  · split at h
    · rename_i h1 h2; exact ⟨h1, h2⟩
    · cases h
  · cases h
theorem wr_size {r : Rit} (hr : RiOk r) {t : Int × Int} (h : (0 ≤ t.1 ∧ t.1 ≤ r.last) ∧ 0 ≤ t.2 ∧ t.2 < r.n) : (wrC r t).length ≤ 16 := by
  have h1 := dec_len (u := t.1.toNat) (by have := hr.l30; omega)
  have h2 : (r.ac t.2.toNat).nm.size ≤ 12 := by
    have h := (hr.at_ (i := t.2.toNat) (by omega)).nm
    unfold wordB at h
    simp only [Bool.and_eq_true, decide_eq_true_eq] at h
    omega
  have h3 : (r.ac t.2.toNat).nm.data.toList.length = (r.ac t.2.toNat).nm.size := by rw [Array.length_toList]; rfl
  unfold wrC
  simp only [List.length_append, List.length_cons, List.length_nil]
  omega
theorem wrT_size {r : Rit} (hr : RiOk r) : ∀ (l : List (Int × Int)), (∀ x ∈ l, (0 ≤ x.1 ∧ x.1 ≤ r.last) ∧ 0 ≤ x.2 ∧ x.2 < r.n) → (wrT r l).length ≤ 16 * l.length
  | [], _ => by simp [wrT]
  | x :: l, h => by
    have h1 := wr_size hr (h x (by simp))
    have h2 := wrT_size hr l fun y hy => h y (by simp [hy])
    have e : (wrT r (x :: l)).length = (wrC r x).length + (wrT r l).length := by simp [wrT]
    rw [e, List.length_cons]
    omega
theorem isB_ext {B b : Nat} {bs : List Value} {w w' : World} (h : Lib.IsBuilder 112 5 B b bs w) (hb : Below w.heap.size w w') : Lib.IsBuilder 112 5 B b bs w' := by
  have key : ∀ p, Lib.BuilderAt 112 5 B b p bs w → Lib.BuilderAt 112 5 B b p bs w' := by
    rintro p ⟨h1, v, h2, h3, h4⟩
    exact ⟨h1, v, Blk.ext (t := 112) h2 hb, ownBelow h3 hb, h4⟩
  exact h.imp (key _) (key _)
def WrtPost (w : World) (r : Rit) (l : List (Int × Int)) (e : Ending) (w' : World) : Prop :=
  (aftC r l ≠ 0 ∧ e = .returned (.tuple #[.string .empty, .int .i64 (aftC r l)]) ∨ aftC r l = 0 ∧ riB r = true ∧ e = .returned (.tuple #[.string ⟨(wrT r l).toArray⟩, .int .i64 0])) ∧ Below w.heap.size w w'
theorem write_rite (d : Rad) (r : Rit) (A : Option Addr) (c : Nat) (l : List (Int × Int)) (w : World) (hd : RtR w d r) (hz : RtZ r) (hl : l.length ≤ 1000000) (hD : DsR w A l) :
    Calls Tryd.prog 37 #[.agg #[.slice d.A r.n d.c, .int .i64 r.last, .int .i64 r.toil], .slice A l.length c] w (WrtPost w r l) := by
  have HB1 : Hid (Below w.heap.size w (w.alloc (.cells #[.slice d.A r.n d.c, .int .i64 r.last, .int .i64 r.toil] 24))) := hide ((Below.refl _ _).alloc (Nat.le_refl _) _)
  have G1 := hide (Blk.new w 24 #[.slice d.A r.n d.c, .int .i64 r.last, .int .i64 r.toil])
  have HRT := hide (hd.ext HB1.out)
  have HD := hide (hD.ext HB1.out)
  have HO := hide (after_any d r A c l _ HRT.out hz hl HD.out)
  have HFM : Hid (aftC r l = 0 → RiOk r ∧ ∀ x ∈ l, (0 ≤ x.1 ∧ x.1 ≤ r.last) ∧ 0 ≤ x.2 ∧ x.2 < r.n) := hide fun h => ⟨riB_ok (aftC_ok h).1, fol_deeds (riB_ok (aftC_ok h).1) l m0 0 (m0_ok (riB_ok (aftC_ok h).1)) (aftC_ok h).2⟩
  have HLN := hide hl
  clear hd hz hD hl
  obtain ⟨ec, hec⟩ : ∃ x, aftC r l = x := ⟨_, rfl⟩
  unfold WrtPost
  unfold AfterPost at HO
  rw [hec] at HO HFM ⊢
  clear hec
  obtain ⟨mo, hmo⟩ : ∃ x, (folF r m0 l 0).1 = x := ⟨_, rfl⟩
  rw [hmo] at HO
  clear hmo
  obtain ⟨oD, oday, ode⟩ := mo
  have hmv : momV ⟨oD, oday, ode⟩ = .agg #[.int .u16 (oD : Nat), .int .i64 oday, .int .i64 ode] := rfl
  have hmv0 : momV m0 = .agg #[.int .u16 0, .int .i64 0, .int .i64 0] := rfl
  rw [hmv, hmv0] at HO
  obtain ⟨n, hn⟩ : ∃ x, l.length = x := ⟨_, rfl⟩
  have HN := hide hn
  rw [hn] at HO HLN ⊢
  clear hmv hmv0 hn
  go_enter Tryd.func37, Tryd.ntmps37
  go_upto_region 1 with fail
  generalize w.alloc (.cells #[.slice d.A r.n d.c, .int .i64 r.last, .int .i64 r.toil] 24) = w1 at HB1 G1 HO HD HRT ⊢
  obtain ⟨G, hG⟩ : ∃ x, w.heap.size = x := ⟨_, rfl⟩
  rw [hG] at G1 ⊢
  clear hG
  obtain ⟨g9, g0, g1, g2, -⟩ := blk3 G1.out
  go_wp2_with fail
  refine HO.out.mono ?_
  rintro e w2 ⟨⟨hc, rfl⟩ | ⟨hc, hb, b, ad, rfl, hB⟩, hbl⟩
  · have HBL := hide (HB1.out.trans (hbl.mono HB1.out.size))
    have HCH := hide hc
    have hb4 : Below w2.heap.size w2 (w2.alloc (.cells #[.int .u16 0, .int .i64 0, .int .i64 0] 77)) := (Below.refl _ _).alloc (Nat.le_refl _) _
    replace HBL := hide (HBL.out.trans (hb4.mono HBL.out.size))
    have e2 : (ec != 0) = true := by rw [bne_iff_ne]; exact HCH.out
    clear hc hbl g9 g0 g1 g2 HO HD hb4
    go_wp2_with fail
    go_ret2
    exact ⟨.inl ⟨HCH.out, rfl⟩, HBL.out⟩
  · obtain rfl := hc
    have HD2 := hide (HD.out.ext hbl)
    have HBL := hide (HB1.out.trans (hbl.mono HB1.out.size))
    have HRB := hide hb
    have HFD := hide (HFM.out rfl)
    have hb4 : Below w2.heap.size w2 (w2.alloc (.cells #[.int .u16 (oD : Nat), .int .i64 oday, .int .i64 ode] 77)) := (Below.refl _ _).alloc (Nat.le_refl _) _
    obtain ⟨q, hbk⟩ : ∃ q, BkR (w2.alloc (.cells #[.int .u16 (oD : Nat), .int .i64 oday, .int .i64 ode] 77)) b d q r := ⟨_, (hB.ext hb4).book HRT.out⟩
    have HBK := hide hbk
    replace HD2 := hide (HD2.out.ext hb4)
    replace HBL := hide (HBL.out.trans (hb4.mono HBL.out.size))
    clear hbl hb hB g9 g0 g1 g2 HO HD hb4 hbk HFM
    go_upto_region 5 with fail
    obtain ⟨w4, hw4⟩ : ∃ x, w2.alloc (.cells #[.int .u16 (oD : Nat), .int .i64 oday, .int .i64 ode] 77) = x := ⟨_, rfl⟩
    have hs4 : w4.heap.size = w2.heap.size + 1 := by rw [← hw4]; simp
    rw [hw4] at HBK HBL HD2 ⊢
    clear hw4
    have IB := hide (Lib.fresh_isBuilder 112 5 w4)
    have B5 : Hid (Below w4.heap.size w4 (w4.alloc (.cells #[.pointer none, .slice none 0 0] 112))) := hide ((Below.refl _ _).alloc (Nat.le_refl _) _)
    rw [← hs4]
    clear hs4
    obtain ⟨M, hM⟩ : ∃ x, w4.heap.size = x := ⟨_, rfl⟩
    have HM := hide hM
    rw [hM] at IB ⊢
    clear hM
    obtain ⟨rn, hrn⟩ : ∃ x, r.n = x := ⟨_, rfl⟩
    have HRN := hide hrn
    have hr10 := HFD.out.1.n10
    rw [hrn] at hr10
    have HSL := hide (fun W (h : Below w4.heap.size w4 W) => (bx8 (HBK.out.ext h).blk).2.1)
    rw [hrn] at HSL
    clear hrn
    go_wp2_with fail
    generalize w4.alloc (.cells #[.pointer none, .slice none 0 0] 112) = w5 at IB B5 ⊢
    go_loopw [24] (fun i wr => ∃ k : Nat, k ≤ n ∧ i = .int .i64 k ∧ Hid (Lib.IsBuilder 112 5 M M (Lib.byteCells (wrT r (l.take k))) wr) ∧ Hid (Below w4.heap.size w4 wr)) (fun i _ => n - (intOf i).toNat)
    case atStart => exact ⟨0, Nat.zero_le _, rfl, IB, B5⟩
    case round =>
      clear IB B5
      obtain ⟨k, hk, rfl, HIB, HBW⟩ := hrel
      have hln := HLN.out
      have hst : IntKind.i64.wrap ((k : Int) + 1) = ((k + 1 : Nat) : Int) := by rw [IntWalk.i64_in _ (by omega)]; omega
      by_cases hlt : k < n
      · have hlt' : (k : Int) < (n : Int) := by omega
        have hkl : k < l.length := by rw [HN.out]; exact hlt
        obtain ⟨t, ht⟩ : ∃ x, l.getD k (0, 0) = x := ⟨_, rfl⟩
        have htm : t ∈ l := by
          rw [← ht, List.getD_eq_getElem?_getD, List.getElem?_eq_getElem hkl]
          exact List.getElem_mem hkl
        have htd := HFD.out.2 t htm
        have HNEXT := hide (wrT_next (r := r) hkl)
        have hsz := wr_size HFD.out.1 htd
        have htk := wrT_size HFD.out.1 (l.take k) (fun x hx => HFD.out.2 x (List.mem_of_mem_take hx))
        rw [List.length_take] at htk
        have hnm : (r.ac t.2.toNat).nm.size ≤ 12 := by
          have h := (HFD.out.1.at_ (i := t.2.toNat) (by omega)).nm
          unfold wordB at h
          simp only [Bool.and_eq_true, decide_eq_true_eq] at h
          omega
        obtain ⟨db, off, rfl, hdl, dc0, dc1⟩ := HD2.out.at_ hkl ht
        have e0 := (HBW.out.cell (p := ⟨db, off + k * 2, none⟩) hdl).trans dc0
        have e1 := (HBW.out.cell (p := ⟨db, off + k * 2 + 1, none⟩) hdl).trans dc1
        obtain ⟨ab, ao, hA, hal, ac0, -⟩ := HBK.out.rt.at_ (k := t.2.toNat) (by omega) rfl
        rw [ht] at HNEXT
        obtain ⟨x, hx⟩ : ∃ x : Nat, t.1 = x := ⟨t.1.toNat, by omega⟩
        obtain ⟨y, hy⟩ : ∃ y : Nat, t.2 = y := ⟨t.2.toNat, by omega⟩
        have hx100 : x < 100 := by have := HFD.out.1.l30; omega
        have hyn : (y : Int) < (rn : Int) := by have := HRN.out; omega
        have HC : Hid (wrC r t = ((Lib.decDigits x ++ [32]) ++ (r.ac y).nm.data.toList) ++ [10]) := hide (by unfold wrC; rw [hx, hy]; rfl)
        rw [hx] at e0
        rw [hy] at e1
        have hyt : t.2.toNat = y := by omega
        rw [hyt] at ac0 hnm
        obtain ⟨nm, hnn⟩ : ∃ z, (r.ac y).nm = z := ⟨_, rfl⟩
        rw [hnn] at HC ac0 hnm
        have HIT := hide (fun W => itoa_any x hx100 W)
        obtain ⟨dg, hdg⟩ : ∃ z, Lib.decDigits x = z := ⟨_, rfl⟩
        have hdl2 : dg.length ≤ 2 := by rw [← hdg]; exact dec_len hx100
        rw [hdg] at HIT HC
        obtain ⟨s0, hs0⟩ : ∃ z : ByteArray, ⟨dg.toArray⟩ = z := ⟨_, rfl⟩
        have hs0l : s0.size = dg.length := by rw [← hs0]; simp [ByteArray.size]
        have HS0 : Hid (s0.data.toList = dg) := hide (by rw [← hs0])
        rw [hs0] at HIT
        have n1 : ¬ 9223372036854775807 < s0.size + 1 := by omega
        have n2 : ¬ 9223372036854775807 < s0.size + 1 + nm.size := by omega
        have n3 : ¬ 9223372036854775807 < s0.size + 1 + nm.size + 1 := by omega
        have hs2 : s0.size ≤ 2 := by omega
        clear hs0 hs0l hdl2
        have HAC : Hid (∀ W, Below w4.heap.size w4 W → W.cell? ⟨b, 0, none⟩ = some (.slice (some ⟨ab, ao, none⟩) rn d.c) ∧ W.cell? ⟨ab, ao + y * 7, none⟩ = some (.string nm)) := hide fun W h => ⟨by have h2 := HSL.out W h; rw [hA] at h2; exact h2, (h.cell (p := ⟨ab, ao + y * 7, none⟩) hal).trans ac0⟩
        have HSZ := hide (And.intro hsz htk)
        clear hkl ht htm htd hsz htk hdl dc0 dc1 hA hal ac0 hx hy hyt hnn hdg
        go_wp2_with fail
        have hbe : Below wr.heap.size wr (wr.alloc (.cells #[.int .i64 (x : Nat), .int .i64 (y : Nat)] 60)) := (Below.refl _ _).alloc (Nat.le_refl _) _
        have KE := Blk.new wr 60 #[.int .i64 (x : Nat), .int .i64 (y : Nat)]
        have hbd := (Below.refl (wr.alloc (.cells #[.int .i64 (x : Nat), .int .i64 (y : Nat)] 60)).heap.size (wr.alloc (.cells #[.int .i64 (x : Nat), .int .i64 (y : Nat)] 60))).drew
        replace HIB := hide (isB_ext (isB_ext HIB.out hbe) hbd)
        have HBD := hide ((HBW.out.trans (hbe.mono HBW.out.size)).trans (hbd.mono (Nat.le_trans HBW.out.size hbe.size)))
        replace KE := hide (KE.ext hbd)
        clear hbe hbd e0 e1
        obtain ⟨E, hE⟩ : ∃ z, wr.heap.size = z := ⟨_, rfl⟩
        rw [hE] at KE ⊢
        clear hE
        refine wp_region_J (fun W : World => ((W.cell? ⟨E, 0, none⟩ = some (.int .i64 (x : Nat)) ∧ W.cell? ⟨E, 1, none⟩ = some (.int .i64 (y : Nat))) ∧ W.cell? ⟨b, 0, none⟩ = some (.slice (some ⟨ab, ao, none⟩) rn d.c) ∧ W.cell? ⟨ab, ao + y * 7, none⟩ = some (.string nm))) (by kernel_rfl) ?_
        generalize (wr.alloc (.cells #[.int .i64 (x : Nat), .int .i64 (y : Nat)] 60)).drew = wd at HIB HBD KE ⊢
        have HS8 : Hid (((wd.cell? ⟨E, 0, none⟩ = some (.int .i64 (x : Nat)) ∧ wd.cell? ⟨E, 1, none⟩ = some (.int .i64 (y : Nat))) ∧ wd.cell? ⟨b, 0, none⟩ = some (.slice (some ⟨ab, ao, none⟩) rn d.c) ∧ wd.cell? ⟨ab, ao + y * 7, none⟩ = some (.string nm))) := hide ⟨⟨(blk2 KE.out).2.1, (blk2 KE.out).2.2.1⟩, HAC.out wd HBD.out⟩
        refine tk_start [0, 1, 4, 5, 6, 7, 8, 9, 10, 11, 12, 13] ?_
        iterate 12
          refine tk_one (v := ?_) (by first | exact hF | exact wideFn) HS8.out rfl (by kernel_rfl) (by kernel_rfl) (by kernel_rfl) (by kernel_rfl) rfl ?_ (by first | exact fun _ _ _ h => h | exact fun _ _ _ h => hQ2 _ _ _ _ _ h) ?_
          rotate_left
          · intro W hSW
            simp only [List.getElem_toArray, List.getElem_cons_zero, List.getElem_cons_succ]
            (try dsimp only at hSW)
            go_simp
            with_reducible rfl
          (try simp only [List.getElem_toArray, List.getElem_cons_zero, List.getElem_cons_succ, Act.put, List.setIfInBounds_toArray, List.set_cons_zero, List.set_cons_succ])
        refine tk_end ?_
        refine wpAnyJ_one 2 rfl (by kernel_rfl) (fun K hK => ?_)
        simp only [List.getElem_toArray, List.getElem_cons_zero, List.getElem_cons_succ]
        go_simp
        refine ⟨trivial, rfl, ?_⟩
        refine (callsIn_wide.2 (HIT.out wd)).mono ?_
        rintro e _ ⟨rfl, rfl⟩
        skip
        dsimp only
        refine hK.out _ _ (fun _ => HS8.out) ?_
        clear hK K
        (try simp only [List.getElem_toArray, List.getElem_cons_zero, List.getElem_cons_succ, Act.put, List.setIfInBounds_toArray, List.set_cons_zero, List.set_cons_succ])
        refine tk_start [3, 14, 15] ?_
        iterate 3
          refine tk_one (v := ?_) (by first | exact hF | exact wideFn) HS8.out rfl (by kernel_rfl) (by kernel_rfl) (by kernel_rfl) (by kernel_rfl) rfl ?_ (by first | exact fun _ _ _ h => h | exact fun _ _ _ h => hQ2 _ _ _ _ _ h) ?_
          rotate_left
          · intro W hSW
            simp only [List.getElem_toArray, List.getElem_cons_zero, List.getElem_cons_succ]
            (try dsimp only at hSW)
            go_simp
            with_reducible rfl
          (try simp only [List.getElem_toArray, List.getElem_cons_zero, List.getElem_cons_succ, Act.put, List.setIfInBounds_toArray, List.set_cons_zero, List.set_cons_succ])
        refine tk_end ?_
        refine wpAnyJ_one 16 rfl (by kernel_rfl) (fun K hK => ?_)
        have hlen : (Lib.byteCells (wrT r (l.take k))).length + (((s0 ++ ⟨#[32]⟩) ++ nm) ++ ⟨#[10]⟩ : ByteArray).size ≤ 140737488355328 := by
          have h := HSZ.out.2
          rw [Lib.byteCells_length]
          simp only [ByteArray.size_append]
          have e1 : (⟨#[32]⟩ : ByteArray).size = 1 := rfl
          have e2 : (⟨#[10]⟩ : ByteArray).size = 1 := rfl
          omega
        have HMW : Hid (M ≤ wd.heap.size) := hide (by rw [← HM.out]; exact HBD.out.size)
        have HWS := hide (wstr2_any M M _ (((s0 ++ ⟨#[32]⟩) ++ nm) ++ ⟨#[10]⟩) wd HIB.out hlen HMW.out)
        have HEQ : Hid (Lib.byteCells (wrT r (l.take k)) ++ Lib.strCells (((s0 ++ ⟨#[32]⟩) ++ nm) ++ ⟨#[10]⟩) = Lib.byteCells (wrT r (l.take (k + 1)))) := hide (by
          rw [HNEXT.out, HC.out, ← HS0.out]
          simp [Lib.byteCells, Lib.strCells, ByteArray.data_append])
        rw [HEQ.out] at HWS
        simp only [List.getElem_toArray, List.getElem_cons_zero, List.getElem_cons_succ]
        go_simp
        refine ⟨trivial, rfl, ?_⟩
        refine (callsIn_wide.2 HWS.out).mono ?_
        rintro e wf ⟨rfl, hf1, hf2, hf4⟩
        have hf3 : Below w4.heap.size wd wf := (by rw [HM.out]; exact hf2); have HBF := hide (HBD.out.trans hf3); have KF := hide (hf4 _ _ _ KE.out (by decide) (by decide))
        dsimp only
        refine hK.out _ _ (fun _ => ⟨⟨(blk2 KF.out).2.1, (blk2 KF.out).2.2.1⟩, HAC.out wf HBF.out⟩) ?_
        clear hK K
        (try simp only [List.getElem_toArray, List.getElem_cons_zero, List.getElem_cons_succ, Act.put, List.setIfInBounds_toArray, List.set_cons_zero, List.set_cons_succ])
        refine wpAnyJ_done (by kernel_rfl) ?_
        have HIF := hide hf1
        clear hf1 hf2 hf3 hf4 HWS HEQ hlen n1 n2 n3
        go_wp2_with fail
        go_roundw
        case rel => exact ⟨k + 1, by omega, by go_num, HIF, HBF⟩
        case measure => simp [intOf]; omega
      · obtain rfl : n = k := by omega
        have hnl : ¬ (n : Int) < (n : Int) := by omega
        have HE : Hid (wrT r (l.take n) = wrT r l) := hide (by rw [← HN.out, List.take_length])
        have HST := hide (bstr_any M M (wrT r (l.take n)) wr HIB.out (by rw [← HM.out]; exact HBW.out.size))
        rw [HE.out] at HST
        go_wp2_with fail
        refine HST.out.mono ?_
        rintro e w9 ⟨rfl, h9⟩
        have hb9 : Below w.heap.size w w9 := (HBL.out.trans (HBW.out.mono HBL.out.size)).trans (h9.mono (by rw [← HM.out]; exact HBL.out.size))
        go_wp2_with fail
        go_ret2
        exact ⟨⟨HRB.out, rfl⟩, hb9⟩
end Go.Proofs.YtcgdalabenflmaaDoor
/- Rite, plain: how the acts that can never be settled are reckoned. -/
namespace Go.Proofs.YtcgdalabenflmaaDoor
open Go Go.RowKit
set_option maxRecDepth 100000
/-- whether a way can still be gone -/
def cwB (r : Rit) (day : Int) (X k : Nat) : Bool := !decide ((r.ac k).to_ < day) && (r.ac k).nd.all fun x => !X.testBit x.toNat
/-- what is left behind some acts -/
def lfN (r : Rit) (day : Int) (X : Nat) (pre : List Nat) : Nat := mkS (fun i => X.testBit i && !(pre.contains i && canB r day X i)) 16
theorem lf_bit {r : Rit} {day : Int} {X : Nat} (hX : X < 65536) (pre : List Nat) (i : Nat) : (lfN r day X pre).testBit i = (X.testBit i && !(pre.contains i && canB r day X i)) := by
  unfold lfN
  rw [mkS_bit]
  by_cases h : i < 16
  · simp [h]
  · rw [bit_ge (n := 16) hX (by omega)]; simp
theorem lf_lt (r : Rit) (day : Int) (X : Nat) (pre : List Nat) : lfN r day X pre < 65536 := mkS_lt _ 16
theorem lf_nil {r : Rit} {day : Int} {X : Nat} (hX : X < 65536) : lfN r day X [] = X := by
  refine Nat.eq_of_testBit_eq fun i => ?_
  rw [lf_bit hX]
  simp
theorem lf_all {r : Rit} {day : Int} {X : Nat} (hX : X < 65536) : lfN r day X (elS X) = hoS r day X := by
  refine Nat.eq_of_testBit_eq fun i => ?_
  rw [lf_bit hX, hoS_bit hX]
  rcases hb : X.testBit i with _ | _
  · rfl
  · rw [List.contains_iff_mem.2 ((elS_mem hX).2 hb)]
    rfl
theorem an_one {s x i : Nat} (hs : s < 65536) : (anN s (2 ^ x)).testBit i = (s.testBit i && !decide (x = i)) := by
  rw [anN_bit _ _ _ hs, Nat.testBit_two_pow]
theorem lf_yes {r : Rit} {day : Int} {X x : Nat} (hX : X < 65536) (pre : List Nat) (h : canB r day X x = true) : lfN r day X (pre ++ [x]) = anN (lfN r day X pre) (2 ^ x) := by
  refine Nat.eq_of_testBit_eq fun i => ?_
  rw [an_one (lf_lt _ _ _ _), lf_bit hX, lf_bit hX]
  by_cases e : x = i
  · subst e
    simp [h]
  · have e2 : (pre ++ [x]).contains i = pre.contains i := by
      rw [Bool.eq_iff_iff, List.contains_iff_mem, List.contains_iff_mem]
      simp [show ¬ i = x from fun h => e h.symm]
    rw [e2]
    simp [e]
theorem lf_no {r : Rit} {day : Int} {X x : Nat} (hX : X < 65536) (pre : List Nat) (h : canB r day X x = false) : lfN r day X (pre ++ [x]) = lfN r day X pre := by
  refine Nat.eq_of_testBit_eq fun i => ?_
  rw [lf_bit hX, lf_bit hX]
  by_cases e : x = i
  · subst e
    simp [h]
  · have e2 : (pre ++ [x]).contains i = pre.contains i := by
      rw [Bool.eq_iff_iff, List.contains_iff_mem, List.contains_iff_mem]
      simp [show ¬ i = x from fun h => e h.symm]
    rw [e2]
/-- the same, behind some ways of an act -/
def liN (r : Rit) (day : Int) (X L x : Nat) (pre : List Nat) : Nat := if pre.any (cwB r day X) = true then anN L (2 ^ x) else L
theorem li_lt {r : Rit} {day : Int} {X L x : Nat} (hL : L < 65536) (pre : List Nat) : liN r day X L x pre < 65536 := by
  unfold liN
  split
  · exact anN_lt _ _
  · exact hL
theorem li_no {r : Rit} {day : Int} {X L x y : Nat} (pre : List Nat) (h : cwB r day X y = false) : liN r day X L x (pre ++ [y]) = liN r day X L x pre := by
  unfold liN
  rw [List.any_append, List.any_cons, List.any_nil, h, Bool.or_false, Bool.or_false]
theorem li_yes {r : Rit} {day : Int} {X L x y : Nat} (hL : L < 65536) (pre : List Nat) (h : cwB r day X y = true) : liN r day X L x (pre ++ [y]) = anN (liN r day X L x pre) (2 ^ x) := by
  unfold liN
  rw [List.any_append, List.any_cons, List.any_nil, h, Bool.true_or, Bool.or_true, if_pos rfl]
  split
  · refine Nat.eq_of_testBit_eq fun i => ?_
    rw [an_one (anN_lt _ _), an_one hL]
    by_cases e : x = i
    · simp [e]
    · simp [e]
  · rfl
theorem wa_lt {r : Rit} (hr : RiOk r) {i k : Nat} (hi : i < r.n) (h : (waS r i).testBit k = true) : k < r.n := by
  unfold waS at h
  rw [mkS_bit, Bool.and_eq_true, Bool.or_eq_true, Bool.or_eq_true] at h
  obtain ⟨-, (h | h) | h⟩ := h
  · have := of_decide_eq_true h; omega
  · have := (hr.at_ hi).ins _ (List.contains_iff_mem.1 h); omega
  · have h1 := of_decide_eq_true h; have := (hr.at_ hi).at1; omega
theorem can_ways {r : Rit} (hr : RiOk r) {day : Int} {X i : Nat} (hi : i < r.n) : canB r day X i = (elS (waS r i)).any (cwB r day X) := by
  rw [Bool.eq_iff_iff]
  unfold canB
  rw [List.any_eq_true, List.any_eq_true]
  constructor
  · rintro ⟨k, hk, h⟩
    rw [Bool.and_eq_true] at h
    exact ⟨k, (elS_mem (mkS_lt _ 16)).2 h.1, h.2⟩
  · rintro ⟨k, hk, h⟩
    have h1 := (elS_mem (mkS_lt _ 16)).1 hk
    exact ⟨k, List.mem_range.2 (wa_lt hr hi h1), by rw [Bool.and_eq_true]; exact ⟨h1, h⟩⟩
/-- behind all ways -/
theorem li_all {r : Rit} (hr : RiOk r) {day : Int} {X x : Nat} (hX : X < 65536) (hx : x < r.n) (pre : List Nat) : liN r day X (lfN r day X pre) x (elS (waS r x)) = lfN r day X (pre ++ [x]) := by
  unfold liN
  rw [← can_ways hr hx]
  split
  · rename_i h; exact (lf_yes hX pre h).symm
  · rename_i h; exact (lf_no hX pre (by simpa using h)).symm
/-- what an act needs, not lost -/
theorem nd_and {r : Rit} (hr : RiOk r) {k : Nat} (hk : k < r.n) (X : Nat) : (seL (r.ac k).nd &&& X = 0) ↔ ((r.ac k).nd.all fun x => !X.testBit x.toNat) = true := by
  have ha := hr.at_ hk
  have h10 := hr.n10
  rw [and_zero, List.all_eq_true]
  constructor
  · intro h x hx
    have h0 := ha.nd x hx
    have h1 := h x.toNat (by rw [seL_bit _ _ (by omega), Int.toNat_of_nonneg h0.1, mem_at hx])
    rw [h1]
    rfl
  · intro h i hi
    have hk16 : i < 16 := by
      rcases Nat.lt_or_ge i 16 with h2 | h2
      · exact h2
      · rw [bit_ge (n := 16) (seL_lt _) h2] at hi; cases hi
    rw [seL_bit _ _ hk16] at hi
    have h1 := h _ (List.contains_iff_mem.1 hi)
    rw [Int.toNat_natCast] at h1
    simpa using h1
theorem ou_bit (r : Rit) (day : Int) (i : Nat) : (ouS r day).testBit i = (decide (i < r.n) && decide ((r.ac i).to_ < day)) := mkS_bit _ _ _
/-- the rounds, by fuel -/
def hpF (r : Rit) (day : Int) : Nat → Nat → Nat
  | 0, X => X
  | k + 1, X => if hoS r day X = X then X else hpF r day k (hoS r day X)
def hpB (r : Rit) (d : Nat) : Nat := anN (2 ^ r.n - 1) (seS r d)
/-- the acts that can never be settled -/
def hpS (r : Rit) (m : Mom) : Nat := hpF r m.day 65536 (hpB r m.d)
/-- what the rounds keep -/
structure HoI (r : Rit) (d : Nat) (day : Int) (X : Nat) : Prop where
  lt : X < 65536
  sub : SubS X (hpB r d)
  top : ∀ Y, SubS Y (hpB r d) → StaS r day Y → SubS Y X
theorem HoI.init (r : Rit) (d : Nat) (day : Int) : HoI r d day (hpB r d) := ⟨anN_lt _ _, fun _ h => h, fun _ h _ => h⟩
theorem HoI.next {r : Rit} {d : Nat} {day : Int} {X : Nat} (h : HoI r d day X) : HoI r d day (hoS r day X) :=
  ⟨mkS_lt _ 16, fun i hi => h.sub i (hoS_sub h.lt i hi), fun Y h1 h2 => hoS_top h.lt (h.top Y h1 h2) h2⟩
theorem HoI.done {r : Rit} {d : Nat} {day : Int} {X : Nat} (h : HoI r d day X) (hf : hoS r day X = X) : HoS r d day X := ⟨h.sub, hoS_fix h.lt hf, h.top⟩
theorem hpF_ho {r : Rit} {d : Nat} {day : Int} : ∀ (k X : Nat), X < k → HoI r d day X → HoS r d day (hpF r day k X)
  | 0, _, h, _ => absurd h (by omega)
  | k + 1, X, hk, h => by
    unfold hpF
    split
    · rename_i hf; exact h.done hf
    · rename_i hf
      exact hpF_ho k _ (by have := hoS_less h.lt hf; omega) h.next
theorem hp_ho (r : Rit) (m : Mom) : HoS r m.d m.day (hpS r m) := hpF_ho 65536 _ (anN_lt _ _) (HoI.init r m.d m.day)
theorem hp_lt (r : Rit) (m : Mom) : hpS r m < 65536 := Nat.lt_of_le_of_lt (subS_le (hp_ho r m).sub) (anN_lt _ _)
theorem hp_eq {r : Rit} {m : Mom} {X : Nat} (h : HoI r m.d m.day X) (hf : hoS r m.day X = X) : X = hpS r m := (h.done hf).uniq (hp_ho r m)
theorem HoI.n {r : Rit} {d : Nat} {day : Int} {X i : Nat} (h : HoI r d day X) (hr : RiOk r) (hi : X.testBit i = true) : i < r.n := by
  have h1 := h.sub i hi
  have h10 := hr.n10
  have hp : 2 ^ r.n < 65536 := Nat.lt_of_le_of_lt (Nat.pow_le_pow_right (by decide) h10) (by decide)
  unfold hpB at h1
  rw [anN_bit _ _ _ (by omega), Bool.and_eq_true, Nat.testBit_two_pow_sub_one] at h1
  exact of_decide_eq_true h1.1
end Go.Proofs.YtcgdalabenflmaaDoor
/- Rite: hopeless, walked. -/
namespace Go.Proofs.YtcgdalabenflmaaDoor
open List renaming getElem_toArray → glA, getElem_cons_zero → glB, getElem_cons_succ → glC, setIfInBounds_toArray → glD, set_cons_zero → glE, set_cons_succ → glF
open Go Go.RowKit Go.Shelf
attribute [local go_sem] Oper.semAt_some
set_option maxHeartbeats 8000000
set_option maxRecDepth 100000
abbrev mkD (D : Nat) : Deferred := { target := .collected D, args := #[] }
/-- leaving with any number of marks -/
theorem leaves_marks {F : Fence} {n : Nat} {P : Program} {fn : Func} {tmps : Array Value} {R : Ending → World → Prop} {n0 : Nat} {w : World} : ∀ (Ds : List Nat) (W : World), Below n0 w W → n0 ≤ W.heap.size → Ds.Pairwise (· ≠ ·) → (∀ D ∈ Ds, n0 ≤ D ∧ W.heap[D]? = some (.deferred (some []))) →
    (∀ W', Below n0 w W' → LeavesInM F n P fn tmps R [] .returning W') → LeavesInM F n P fn tmps R (Ds.map mkD) .returning W
  | [], W, hb, _, _, _, h => h W hb
  | D :: Ds, W, hb, hn, hd, hD, h => by
    obtain ⟨h1, h2⟩ := List.pairwise_cons.1 hd
    have hD0 := hD D (by simp)
    refine ⟨by simp, .inl ⟨D, _, rfl, run_takeDeferred hD0.2, ?_⟩⟩
    refine leaves_marks Ds _ (hb.grown (grownBy_putObj' W D (.deferred none)) hn (fun k e => by cases e; exact hD0.1)) (by simpa using hn) h2 (fun D' hm => ?_) h
    have h3 := hD D' (by simp [hm])
    exact ⟨h3.1, (World.putObj_heap_other (h1 D' hm).symm).trans h3.2⟩
/-- marks that are not yet taken -/
structure MkI (w : World) (N : Nat) (Ds : List Nat) (W : World) : Prop where
  ne : Ds.Pairwise (· ≠ ·)
  at_ : ∀ D ∈ Ds, w.heap.size ≤ D ∧ D < N ∧ W.heap[D]? = some (.deferred (some []))
theorem MkI.keeps {w W W' : World} {N : Nat} {Ds : List Nat} (h : MkI w N Ds W) (k : KeepsOthers W W') : MkI w N Ds W' :=
  ⟨h.ne, fun D hD => by obtain ⟨h1, h2, h3⟩ := h.at_ D hD; exact ⟨h1, h2, k.same D _ h3 rfl⟩⟩
theorem MkI.mono {w W : World} {N N' : Nat} {Ds : List Nat} (h : MkI w N Ds W) (k : N ≤ N') : MkI w N' Ds W :=
  ⟨h.ne, fun D hD => by obtain ⟨h1, h2, h3⟩ := h.at_ D hD; exact ⟨h1, Nat.lt_of_lt_of_le h2 k, h3⟩⟩
theorem MkI.grown {w W W' : World} {N : Nat} {Ds : List Nat} (h : MkI w N Ds W) {row : Option Nat} (hg : W.grownBy W' row) (hr : ∀ r, row = some r → N ≤ r) : MkI w N Ds W' :=
  ⟨h.ne, fun D hD => by
    obtain ⟨h1, h2, h3⟩ := h.at_ D hD
    exact ⟨h1, h2, (hg.block D (Array.getElem?_eq_some_iff.1 h3).1 (fun e => by have := hr D e.symm; omega)).trans h3⟩⟩
theorem MkI.more {w W : World} {N D : Nat} {Ds : List Nat} (h : MkI w N Ds W) (hw : w.heap.size ≤ N) (hN : N ≤ D) (hD : W.heap[D]? = some (.deferred (some []))) : MkI w W.heap.size (D :: Ds) W :=
  ⟨List.pairwise_cons.2 ⟨fun D' hm e => by have := (h.at_ D' hm).2.1; omega, h.ne⟩, fun D' hm => by
    rcases List.mem_cons.1 hm with rfl | hm
    · exact ⟨Nat.le_trans hw hN, (Array.getElem?_eq_some_iff.1 hD).1, hD⟩
    · obtain ⟨h1, h2, h3⟩ := h.at_ D' hm
      exact ⟨h1, (Array.getElem?_eq_some_iff.1 h3).1, h3⟩⟩
/-- what the call keeps -/
structure HpS (w W : World) (g b D : Nat) (day de : Int) : Prop where
  lo : Below w.heap.size w W
  k2 : Blk W g 73 #[.pointer (some ⟨b, 0, none⟩)]
  k3 : Blk W (g + 1) 77 #[.int .u16 (D : Nat), .int .i64 day, .int .i64 de]
theorem HpS.ext {w W W' : World} {g b D : Nat} {day de : Int} (h : HpS w W g b D day de) (hb : Below W.heap.size W W') : HpS w W' g b D day de :=
  ⟨h.lo.trans (hb.mono h.lo.size), h.k2.ext hb, h.k3.ext hb⟩
theorem HpS.keptN {w W W' : World} {g b D : Nat} {day de : Int} (h : HpS w W g b D day de) {row : Option Nat} (hg : W.grownBy W' row) (hr : ∀ r, row = some r → w.heap.size ≤ r ∧ ∃ o : Obj, W.heap[r]? = some o ∧ o.isCells = false) : HpS w W' g b D day de :=
  ⟨h.lo.grown hg h.lo.size (fun r e => (hr r e).1), h.k2.keptN hg (fun r e => (hr r e).2), h.k3.keptN hg (fun r e => (hr r e).2)⟩
theorem HpS.set {w W : World} {g b D : Nat} {day de : Int} (h : HpS w W g b D day de) {p : Nat} (hp : w.heap.size ≤ p) (h2 : g + 1 < p) (v : Value) : HpS w (W.setCell ⟨p, 0, none⟩ v) g b D day de :=
  ⟨h.lo.setCell (p := ⟨p, 0, none⟩) hp v, h.k2.far (p := ⟨p, 0, none⟩) (by show g ≠ p; omega) v, h.k3.far (p := ⟨p, 0, none⟩) (by show g + 1 ≠ p; omega) v⟩
/-- a range within a round whose assignment only moves values -/
theorem wpIn_rangeFunc_listNa {F : Fence} {n : Nat} {P : Program} {α : Type} {g : Operand} {ps : Array Tmp} {assign body : Code} {Q : Exit → Act → World → Prop} {a : Act} {w : World}
    {l₀ : Nat} {r₀ : Loop} (hro : F.round = some l₀) (hl₀ : w.heap[l₀]? = some (.loop r₀)) (h1 : 1 ≤ n) {gf : Nat} {fs lb : Array Value} (hg : a.eval g = .func (.func gf) fs lb) (hFg : F.fn gf) (eg : ∀ args w, (callFunc gf args).run P w = .ok (.enter gf args) w)
    {encs : α → Array Value} {R : World → Prop} {L : List α} {w0 : World} (hseq : SeqL F (n - 1) P gf fs lb encs R L w0)
    (hb0 : Below w0.heap.size w0 w) (hps : ∀ x, (encs x).size = ps.size)
    (I : List α → World → Prop) (Ix : Code → List α → World → Prop) (hI : OwnFrom w.heap.size I) (hIR : ∀ pre W, I pre W → R W) (hIx : ∀ c, OwnFrom w.heap.size (Ix c)) (h0 : I [] w) (a₁ : α → Act)
    (hassign : ∀ (l : Nat) (x : α) (W : World) (K : Act → World → Prop), K (a₁ x) W →
      assign.wpIn (F.inRound l) (n - 1 - 1) P (Exit.then K (fun _ _ _ => False)) { tmps := (ps.zip (encs x)).foldl (fun t (p, v) => t.setIfInBounds p v) a.tmps, defers := [] } W)
    (hbody : ∀ (l : Nat) (pre : List α) (x : α) (W : World), w.heap.size ≤ l → pre ++ [x] <+: L → I pre W → body.wpIn (F.inRound l) (n - 1 - 1) P (ownPostG w.heap.size (fun _ _ => True) I Ix (pre ++ [x]) W) (a₁ x) W)
    (hdone : ∀ (W : World), I L W → Q .normal a W)
    (hstop : ∀ (c : Code) (pre : List α) (W : World), pre <+: L → Ix c pre W → c.wpIn F n P Q a W) :
    (Code.rangeFunc g ps assign body).wpIn F n P Q a w :=
  wpIn_rangeFunc_listN hro hl₀ h1 hg hFg eg hseq hb0 hps I Ix hI hIR hIx h0 (fun x a' _ => a' = a₁ x) (fun _ _ _ _ _ _ h _ _ => h)
    (fun l pre x W K hi hK => hassign l x W K (hK _ W (KeepsFrom.refl _ _) hi rfl)) (fun l pre x a' W hl _ hp hi h => by rw [h]; exact hbody l pre x W hl hp hi) hdone hstop
/-- the set that is lost -/
def hpM (h5 : Nat) (w : World) : Nat := match w.cell? ⟨h5, 0, none⟩ with | some (.int _ x) => x.toNat | _ => 0
theorem hpM_eq {h5 X : Nat} {w : World} (h : Blk w h5 75 #[.int .u16 (X : Nat)]) : hpM h5 w = X := by
  unfold hpM
  rw [h.cell]
  exact Int.toNat_natCast X
theorem hopeless_any (b : Nat) (d : Rad) (q : Bad) (r : Rit) (m : Mom) (w : World) (hr : RiOk r) (hd : m.d < 65536) (hB : BkR w b d q r) (hT : TB w) :
    Calls Tryd.prog 52 #[.pointer (some ⟨b, 0, none⟩), momV m] w fun e w' => e = .returned (.int .u16 (hpS r m : Nat)) ∧ Below w.heap.size w w' := by
  have h10 := hr.n10
  have HR := hide hr
  have HBK := hide hB
  have HTB := hide hT
  have HSE := hide (fun W (h : BkR W b d q r) => settled_any b d q r m.d W hr hd h)
  have HOU := hide (fun W (h : BkR W b d q r) => out_any b d q r m.day W hr h)
  have HQ : Hid (∀ X, HoI r m.d m.day X → hoS r m.day X = X → X = hpS r m) := hide fun X h1 h2 => hp_eq h1 h2
  have HI0 := hide (HoI.init r m.d m.day)
  obtain ⟨Z, hZ⟩ : ∃ x, hpS r m = x := ⟨_, rfl⟩
  rw [hZ] at HQ ⊢
  clear hZ
  obtain ⟨D, day, de⟩ := m
  obtain ⟨n, hn⟩ : ∃ n, r.n = n := ⟨_, rfl⟩
  have HN := hide hn
  unfold hpB at HI0
  unfold momV
  dsimp only at HSE HOU HQ HI0 hd ⊢
  rw [hn] at h10 HI0
  have hse : seS r D < 65536 := seS_lt hr D
  have hou : ouS r day < 65536 := lt16 (mkS_lt _ r.n) (by omega)
  obtain ⟨SE, hSE⟩ : ∃ x, seS r D = x := ⟨_, rfl⟩
  rw [hSE] at HSE HI0 hse
  clear hSE
  have h2n : 2 ^ n ≤ 2 ^ 10 := Nat.pow_le_pow_right (by decide) h10
  have h2p : 0 < 2 ^ n := Nat.pow_pos (by decide)
  obtain ⟨P2, hP2⟩ : ∃ P : Nat, 2 ^ n = P := ⟨_, rfl⟩
  have hPi : (2 : Int) ^ n = (P2 : Int) := by rw [← hP2, Int.natCast_pow]; rfl
  rw [hP2] at h2n h2p HI0
  obtain ⟨P1, hP1⟩ : ∃ P : Nat, P2 - 1 = P := ⟨_, rfl⟩
  rw [hP1] at HI0
  have p0 : (0 : Int) ≤ (n : Int) := by omega
  have p1 : (n : Int) ≤ 64 := by omega
  have p2 : IntKind.u16.wrap (1 * 2 ^ n) = (P2 : Int) := by rw [Int.one_mul, hPi]; exact wrap16 (by omega)
  have p3 : IntKind.u16.wrap (2 ^ n) = (P2 : Int) := by rw [hPi]; exact wrap16 (by omega)
  have p4 : IntKind.u16.wrap ((P2 : Int) - 1) = (P1 : Int) := by rw [show ((P2 : Int) - 1) = (P1 : Int) by omega]; exact wrap16 (by omega)
  have p6 : IntKind.u16.wrap (P2 : Int) = (P2 : Int) := wrap16 (by omega)
  have p5 := not16 (show P1 < 65536 by omega) hse
  obtain ⟨X0, hX0⟩ : ∃ x, anN P1 SE = x := ⟨_, rfl⟩
  rw [hX0] at p5 HI0
  clear hX0
  refine (callsIn_wide (n := 9)).1 ?_
  obtain ⟨F, hFw⟩ : ∃ F : Fence, F = Fence.wide := ⟨_, rfl⟩
  rw [← hFw]
  have hF : ∀ f, F.fn f := by rw [hFw]; exact fun _ => trivial
  have hro : F.round = none := by rw [hFw]; rfl
  have hwd : ∀ {n f args w R}, Calls Tryd.prog f args w R → CallsIn F n Tryd.prog f args w R := by rw [hFw]; exact fun h => callsIn_wide.2 h
  clear hFw
  have HB1 : Hid (Below w.heap.size w ((w.alloc (.cells #[.pointer (some ⟨b, 0, none⟩)] 73)).alloc (.cells #[.int .u16 (D : Nat), .int .i64 day, .int .i64 de] 77))) := hide (((Below.refl _ _).alloc (Nat.le_refl _) _).alloc (by simp) _)
  have G2 : Hid (Blk ((w.alloc (.cells #[.pointer (some ⟨b, 0, none⟩)] 73)).alloc (.cells #[.int .u16 (D : Nat), .int .i64 day, .int .i64 de] 77)) w.heap.size 73 #[.pointer (some ⟨b, 0, none⟩)]) := hide ((Blk.new w _ _).alloc _)
  have G3 : Hid (Blk ((w.alloc (.cells #[.pointer (some ⟨b, 0, none⟩)] 73)).alloc (.cells #[.int .u16 (D : Nat), .int .i64 day, .int .i64 de] 77)) (w.heap.size + 1) 77 #[.int .u16 (D : Nat), .int .i64 day, .int .i64 de]) := hide (by simpa using Blk.new (w.alloc (.cells #[.pointer (some ⟨b, 0, none⟩)] 73)) 77 #[.int .u16 (D : Nat), .int .i64 day, .int .i64 de])
  obtain ⟨g, hg⟩ : ∃ x, w.heap.size = x := ⟨_, rfl⟩
  have HG : Hid (w.heap.size = g) := hide hg
  have HS1 : Hid (HpS w ((w.alloc (.cells #[.pointer (some ⟨b, 0, none⟩)] 73)).alloc (.cells #[.int .u16 (D : Nat), .int .i64 day, .int .i64 de] 77)) g b D day de) := hide ⟨HB1.out, by rw [← hg]; exact G2.out, by rw [← hg]; exact G3.out⟩
  have HSA : Hid (∀ W, HpS w W g b D day de → (W.cell? ⟨g, 0, none⟩ = some (.pointer (some ⟨b, 0, none⟩)) ∧ (W.cell? ⟨g + 1, 0, none⟩ = some (.int .u16 (D : Nat)) ∧ W.cell? ⟨g + 1, 1, none⟩ = some (.int .i64 day)) ∧ (W.cell? ⟨b, 0, none⟩ = some (.slice d.A n d.c) ∧ W.cell? ⟨b, 3, none⟩ = some (.slice q.pn n n) ∧ W.cell? ⟨b, 4, none⟩ = some (.slice q.pw n n)))) := hide (fun W h => by
    obtain ⟨-, x0, -⟩ := blk1 h.k2
    obtain ⟨-, y0, y1, y2, -⟩ := blk3 h.k3
    have u := bx8 (hB.ext h.lo).blk
    rw [hn] at u
    exact ⟨x0, ⟨y0, y1⟩, u.2.1, u.2.2.2.2.1, u.2.2.2.2.2.1⟩)
  refine callsIn_of_wp_marks Tryd.func52 rfl (hF _) ?_ hro
  simp only [Tryd.ntmps52, List.size_toArray, List.length_cons, List.length_nil, Nat.reduceAdd, Nat.reduceSub, Array.replicate_succ, Array.replicate_zero, List.push_toArray, List.append_toArray, List.nil_append, List.cons_append]
  clear G2 G3 HB1 hB hT hr hn hP1 hP2 h2n h2p
  gi_wp2_with fail
  rename_i K1 hK1
  (try simp only [World.size_alloc])
  (try rw [hg])
  clear hg
  have HK1 := hide hK1
  clear hK1
  have REST1 : Hid (∀ (h5 : Nat) (W : World), w.heap.size ≤ h5 → g + 1 < h5 → HpS w W g b D day de → Blk W h5 75 #[.int .u16 (X0 : Nat)] → K1 { tmps := #[.pointer (some ⟨b, 0, none⟩), .agg #[.int .u16 (D : Nat), .int .i64 day, .int .i64 de], .pointer (some ⟨g, 0, none⟩), .pointer (some ⟨g + 1, 0, none⟩), .int .u16 0, .pointer (some ⟨h5, 0, none⟩), undef, undef, undef, undef, .pointer (some ⟨b, 0, none⟩), .pointer (some ⟨b, 0, none⟩), .pointer (some ⟨b, 0, none⟩), .pointer (some ⟨b, 0, none⟩), .slice d.A n d.c, .int .i64 n, .int .u16 (P2 : Nat), .int .u16 (P1 : Nat), .pointer (some ⟨b, 0, none⟩), .pointer (some ⟨g + 1, 0, none⟩), .int .u16 (D : Nat), .int .u16 (SE : Nat), .int .u16 (X0 : Nat), undef, undef, undef, undef, undef, undef, undef, undef, undef, undef, undef, undef, undef, undef, undef, undef, undef, undef, undef, undef, undef, undef, undef, undef, undef, undef, undef, undef, undef, undef, undef, undef, undef, undef, undef, undef, undef, undef, undef, undef, undef, undef, undef], defers := [] } W) := by
    refine hide ?_
    intro h5 W hlo5 hg5 hS h5k
    refine HK1.out _ _ ?_
    clear HK1 HS1
    dsimp only
    obtain ⟨s1, ⟨s2, s3⟩, s4, s5, s6⟩ := HSA.out _ hS
    obtain ⟨O, hO⟩ : ∃ x, ouS r day = x := ⟨_, rfl⟩
    have HO := hide hO
    rw [hO] at HOU hou
    clear hO
    gi_wp2_with fail
    refine (hwd (HOU.out W (HBK.out.ext hS.lo))).mono ?_
    rintro e w3 ⟨rfl, h3⟩
    clear s1 s2 s3 s4 s5 s6
    gi_wp2_with fail
    have hb3 : Below w3.heap.size w3 (w3.alloc (.cells #[.int .u16 (O : Nat)] 75)) := (Below.refl _ _).alloc (Nat.le_refl _) _
    have HLO : Hid (w.heap.size ≤ h5 ∧ g + 1 < h5 ∧ h5 < w3.heap.size) := hide ⟨hlo5, hg5, Nat.lt_of_lt_of_le h5k.lt h3.size⟩
    have HS := hide ((hS.ext h3).ext hb3)
    have H5 := hide ((h5k.ext h3).ext hb3)
    have H6 := hide (Blk.new w3 75 #[.int .u16 (O : Nat)])
    clear hlo5 hg5 hS h5k h3 hb3
    generalize w3.alloc (.cells #[.int .u16 (O : Nat)] 75) = w4 at HS H5 H6 ⊢
    obtain ⟨h6, hh6⟩ : ∃ x, w3.heap.size = x := ⟨_, rfl⟩
    rw [hh6] at H6 HLO ⊢
    clear hh6
    refine wpIn_loop (fun a' w' => ∃ (u7 u27 u28 u29 u61 u62 u63 u65 : Value) (Ds : List Nat) (X : Nat), a' = { tmps := #[.pointer (some ⟨b, 0, none⟩), .agg #[.int .u16 (D : Nat), .int .i64 day, .int .i64 de], .pointer (some ⟨g, 0, none⟩), .pointer (some ⟨g + 1, 0, none⟩), .int .u16 0, .pointer (some ⟨h5, 0, none⟩), (.pointer (some ⟨h6, 0, none⟩)), u7, undef, undef, .pointer (some ⟨b, 0, none⟩), .pointer (some ⟨b, 0, none⟩), .pointer (some ⟨b, 0, none⟩), .pointer (some ⟨b, 0, none⟩), .slice d.A n d.c, .int .i64 n, .int .u16 (P2 : Nat), .int .u16 (P1 : Nat), .pointer (some ⟨b, 0, none⟩), .pointer (some ⟨g + 1, 0, none⟩), .int .u16 (D : Nat), .int .u16 (SE : Nat), .int .u16 (X0 : Nat), (.pointer (some ⟨b, 0, none⟩)), (.pointer (some ⟨g + 1, 1, none⟩)), (.int .i64 day), (.int .u16 (O : Nat)), u27, u28, u29, undef, undef, undef, undef, undef, undef, undef, undef, undef, undef, undef, undef, undef, undef, undef, undef, undef, undef, undef, undef, undef, undef, undef, undef, undef, undef, undef, undef, undef, undef, undef, u61, u62, u63, undef, u65], defers := Ds.map mkD } ∧
      HpS w w' g b D day de ∧ Blk w' h5 75 #[.int .u16 (X : Nat)] ∧ Blk w' h6 75 #[.int .u16 (O : Nat)] ∧ MkI w w'.heap.size Ds w' ∧ HoI r D day X)
      (fun _ w' => hpM h5 w') ⟨undef, undef, undef, undef, undef, undef, undef, undef, [], X0, rfl, HS.out, H5.out, H6.out, ⟨List.Pairwise.nil, fun D h => by cases h⟩, HI0.out⟩ ?_
    clear HS H5 H6 HI0 p2 p3 p4 p5 p6 hPi
    rintro a' w' ⟨u7, u27, u28, u29, u61, u62, u63, u65, Ds, X, rfl, hS, h5k, h6k, hM, hX⟩
    dsimp only
    obtain ⟨f5, c5, e5⟩ := blk1 h5k
    gi_wp2_with fail
    have hb7 : Below w'.heap.size w' (w'.alloc (.cells #[.int .u16 (X : Nat)] 75)) := (Below.refl _ _).alloc (Nat.le_refl _) _
    have HS := hide (hS.ext hb7)
    have H5 := hide (h5k.ext hb7)
    have H6 := hide (h6k.ext hb7)
    have H7 := hide (Blk.new w' 75 #[.int .u16 (X : Nat)])
    have HM := hide ((hM.keeps (keepsO hb7)).mono hb7.size)
    have HX := hide hX
    have HMU := hide (hpM_eq h5k)
    have HG7 : Hid (g + 1 < w'.heap.size) := hide hS.k3.lt
    have HW7 : Hid (w.heap.size ≤ w'.heap.size ∧ h6 < w'.heap.size ∧ h5 < w'.heap.size) := hide ⟨hS.lo.size, h6k.lt, h5k.lt⟩
    clear hS h5k h6k hM hX hb7 f5 c5 e5
    (try rw [HMU.out])
    generalize w'.alloc (.cells #[.int .u16 (X : Nat)] 75) = w7 at HS H5 H6 H7 HM ⊢
    obtain ⟨h7, hh7⟩ : ∃ x, w'.heap.size = x := ⟨_, rfl⟩
    rw [hh7] at H7 HW7 HG7 ⊢
    clear hh7
    have HN7 := hide (Nat.le_refl w7.heap.size)
    have hlo7 : w.heap.size ≤ w7.heap.size := HS.out.lo.size
    have HL7 := hide hlo7
    have hst := all_seq F (9 - 1) hF hro (by omega) hwd X w7 HX.out.lt
    refine wpIn_rangeFunc_listH hro (by omega) (gf := 66) (fs := #[.int .u16 (X : Nat)]) (lb := #[]) rfl (hF _) (enters_of Tryd.func66 (by kernel_rfl) rfl)
      hst (Below.refl _ _) (fun _ => rfl)
      (fun pre W => HpS w W g b D day de ∧ Blk W h5 75 #[.int .u16 (X : Nat)] ∧ Blk W h6 75 #[.int .u16 (O : Nat)] ∧ Blk W h7 75 #[.int .u16 (lfN r day X pre : Nat)] ∧ MkI w w7.heap.size Ds W ∧ w7.heap.size ≤ W.heap.size)
      (fun _ _ _ => False) ?hI (fun pre W h => HTB.out.ext h.1.lo) (fun _ _ _ _ _ h _ _ => h) ⟨HS.out, H5.out, H6.out, by rw [lf_nil HX.out.lt]; exact H7.out, HM.out, Nat.le_refl _⟩
      (fun x a' W => ∃ h8, w7.heap.size ≤ h8 ∧ a' = { tmps := #[.pointer (some ⟨b, 0, none⟩), .agg #[.int .u16 (D : Nat), .int .i64 day, .int .i64 de], .pointer (some ⟨g, 0, none⟩), .pointer (some ⟨g + 1, 0, none⟩), .int .u16 0, .pointer (some ⟨h5, 0, none⟩), (.pointer (some ⟨h6, 0, none⟩)), (.pointer (some ⟨h7, 0, none⟩)), (.pointer (some ⟨h8, 0, none⟩)), undef, .pointer (some ⟨b, 0, none⟩), .pointer (some ⟨b, 0, none⟩), .pointer (some ⟨b, 0, none⟩), .pointer (some ⟨b, 0, none⟩), .slice d.A n d.c, .int .i64 n, .int .u16 (P2 : Nat), .int .u16 (P1 : Nat), .pointer (some ⟨b, 0, none⟩), .pointer (some ⟨g + 1, 0, none⟩), .int .u16 (D : Nat), .int .u16 (SE : Nat), .int .u16 (X0 : Nat), (.pointer (some ⟨b, 0, none⟩)), (.pointer (some ⟨g + 1, 1, none⟩)), (.int .i64 day), (.int .u16 (O : Nat)), (.int .u16 (X : Nat)), (.int .u16 (X : Nat)), (.func (.func 66) #[.int .u16 (X : Nat)] #[]), (.int .i64 x), undef, undef, undef, undef, undef, undef, undef, undef, undef, undef, undef, undef, undef, undef, undef, undef, undef, undef, undef, undef, undef, undef, undef, undef, undef, undef, undef, undef, undef, undef, u61, u62, u63, undef, u65], defers := [] } ∧ Blk W h8 3 #[.int .i64 x])
      ?hAx ?hassign ?hbody ?hdone ?hstop
    case hI =>
      rintro pre W W' row ⟨h1, h2, h3, h4, h9, hz⟩ hg hr
      have hr' := fun r e => (hr r e).2
      exact ⟨h1.keptN hg (fun r e => ⟨Nat.le_trans HL7.out (hr r e).1, (hr r e).2⟩), h2.keptN hg hr', h3.keptN hg hr', h4.keptN hg hr', h9.grown hg (fun r e => (hr r e).1), Nat.le_trans hz hg.size⟩
    case hAx =>
      rintro x a' - W W' row ⟨h8, h1, rfl, h2⟩ hg hr
      exact ⟨h8, h1, rfl, h2.keptN hg (fun r e => (hr r e).2)⟩
    case hassign =>
      rintro l pre x W K ⟨h1, h2, h3, h4, h9, hz⟩ hK
      have hb8 : Below W.heap.size W (W.alloc (.cells #[.int .i64 x] 3)) := (Below.refl _ _).alloc (Nat.le_refl _) _
      have HKK := hide (fun a' h => hK a' (W.alloc (.cells #[.int .i64 x] 3)) ((keepsO hb8).from _) ⟨h1.ext hb8, h2.ext hb8, h3.ext hb8, h4.ext hb8, h9.keeps (keepsO hb8), Nat.le_trans hz hb8.size⟩ h)
      have h8 := Blk.new W 3 #[.int .i64 x]
      clear hK
      gi_wp2_with fail
      exact HKK.out _ ⟨W.heap.size, hz, rfl, h8⟩
    case hbody =>
      rintro l pre x a' W hl ⟨rl, hrl⟩ hpre ⟨h1, h2, h3, h4, h9, hz⟩ ⟨h8, hlo8, rfl, hk8⟩
      dsimp only
      have hmem : x ∈ elS X := by
        obtain ⟨t, ht⟩ := hpre
        rw [← ht]
        simp
      have hxn : x < n := by rw [← HN.out]; exact HX.out.n HR.out ((elS_mem HX.out.lt).1 hmem)
      have hxn' : (x : Int) < (n : Int) := by omega
      have hxr : x < r.n := by rw [HN.out]; exact hxn
      have HXR := hide hxr
      obtain ⟨L, hL⟩ : ∃ y, lfN r day X pre = y := ⟨_, rfl⟩
      have hLl : L < 65536 := by rw [← hL]; exact lf_lt _ _ _ _
      have HLL := hide hLl
      have HLI : Hid (liN r day X L x (elS (waS r x)) = lfN r day X (pre ++ [x])) := hide (by rw [← hL]; exact li_all HR.out HX.out.lt hxr pre)
      rw [hL] at h4
      have hwx : waS r x < 65536 := waS_lt r x
      obtain ⟨pb, po, hpw, hpl, hpc⟩ := VR1.at_ HBK.out.sw hxr
      have HWN : Hid (∀ y, y ∈ elS (waS r x) → y < r.n) := hide fun y hy => wa_lt HR.out HXR.out ((elS_mem (waS_lt r x)).1 hy)
      obtain ⟨WA, hWA⟩ : ∃ y, waS r x = y := ⟨_, rfl⟩
      rw [hWA] at HLI hwx hpc HWN
      have HS6 : Hid (∀ W, HpS w W g b D day de → Blk W h8 3 #[.int .i64 x] → (W.cell? ⟨g, 0, none⟩ = some (.pointer (some ⟨b, 0, none⟩)) ∧ W.cell? ⟨b, 4, none⟩ = some (.slice (some ⟨pb, po, none⟩) n n) ∧ W.cell? ⟨h8, 0, none⟩ = some (.int .i64 x) ∧ W.cell? ⟨pb, po + x, none⟩ = some (.int .u16 (WA : Nat)))) := hide fun W h k => ⟨(HSA.out W h).1, by have := (HSA.out W h).2.2.2.2; rw [hpw] at this; exact this, (blk1 k).2.1, (h.lo.cell (p := ⟨pb, po + x, none⟩) hpl).trans hpc⟩
      have hbd := (Below.refl W.heap.size W).drew
      have J1 := hide (h1.ext hbd)
      have J2 := hide (h2.ext hbd)
      have J3 := hide (h3.ext hbd)
      have J4 := hide (h4.ext hbd)
      have J8 := hide (hk8.ext hbd)
      have J9 := hide (h9.keeps (keepsO hbd))
      have JK := hide ((keepsO hbd).from w7.heap.size)
      have hrl2 : W.drew.heap[l]? = some (.loop rl) := hrl
      have hsz : W.drew.heap.size = W.heap.size := rfl
      have hzb : w7.heap.size ≤ W.drew.heap.size := hz
      have h7b : h7 < W.drew.heap.size := h4.lt
      have h8b : h8 < W.drew.heap.size := hk8.lt
      have HZ := hide (And.intro hzb (And.intro h7b (And.intro h8b hsz)))
      have HRL := hide hrl2
      clear hmem hxn hL hpw hpl hpc hWA h1 h2 h3 h4 h9 hk8 hpre hrl hrl2 hbd hsz hzb h7b h8b hst hz
      gi_wp2_with fail
      refine wpIn_only ?_
      refine wpIn_region_J (fun W : World => (W.cell? ⟨g, 0, none⟩ = some (.pointer (some ⟨b, 0, none⟩)) ∧ W.cell? ⟨b, 4, none⟩ = some (.slice (some ⟨pb, po, none⟩) n n) ∧ W.cell? ⟨h8, 0, none⟩ = some (.int .i64 x) ∧ W.cell? ⟨pb, po + x, none⟩ = some (.int .u16 (WA : Nat)))) (by kernel_rfl) ?_
      generalize W.drew = wb at J1 J2 J3 J4 J8 J9 JK HZ HRL ⊢
      refine tk_start [0, 1, 2, 3, 4, 5, 6, 7] ?_
      iterate 8
        refine tk_one (v := ?_) (by first | exact hF | exact wideFn) (HS6.out _ J1.out J8.out) rfl (by kernel_rfl) (by kernel_rfl) (by kernel_rfl) (by kernel_rfl) rfl ?_ (by first | exact fun _ _ _ h => h | exact fun _ _ _ h => hQ2 _ _ _ _ _ h) ?_
        rotate_left
        · intro W hSW
          simp only [glA, glB, glC]
          (try dsimp only at hSW)
          go_simp
          with_reducible rfl
        (try simp only [glA, glB, glC, Act.put, glD, glE, glF])
      refine tk_end ?_
      refine wpAnyJ_done (by kernel_rfl) ?_
      dsimp only [OnlyNormal]
      gi_wp2_with fail
      refine wpIn_rangeFunc_listNa (F := F.inRound l) (l₀ := l) (r₀ := rl) rfl HRL.out (by omega) (gf := 66) (fs := #[.int .u16 (WA : Nat)]) (lb := #[]) rfl (hF _) (enters_of Tryd.func66 (by kernel_rfl) rfl)
        (SeqL.inRound l (all_seq F (9 - 1 - 1 - 1) hF hro (by omega) hwd WA wb hwx)) (Below.refl _ _) (fun _ => rfl)
        (fun pre2 W2 => HpS w W2 g b D day de ∧ Blk W2 h5 75 #[.int .u16 (X : Nat)] ∧ Blk W2 h6 75 #[.int .u16 (O : Nat)] ∧ Blk W2 h7 75 #[.int .u16 (liN r day X L x pre2 : Nat)] ∧ MkI w w7.heap.size Ds W2 ∧ w7.heap.size ≤ W2.heap.size ∧ Blk W2 h8 3 #[.int .i64 x] ∧ KeepsFrom w7.heap.size W W2)
        (fun _ _ _ => False) ?jI (fun pre W h => HTB.out.ext h.1.lo) (fun _ _ _ _ _ h _ _ => h) ⟨J1.out, J2.out, J3.out, J4.out, J9.out, HZ.out.1, J8.out, JK.out⟩
        ?a1 ?jassign ?jbody ?jdone ?jstop
      case jI =>
        rintro pre2 W2 W3 row ⟨i1, i2, i3, i4, i9, iz, i8, ik⟩ hg hr
        have hr' := fun r e => (hr r e).2
        exact ⟨i1.keptN hg (fun r e => ⟨Nat.le_trans HL7.out (Nat.le_trans HZ.out.1 (hr r e).1), (hr r e).2⟩), i2.keptN hg hr', i3.keptN hg hr', i4.keptN hg hr', i9.grown hg (fun r e => Nat.le_trans HZ.out.1 (hr r e).1), Nat.le_trans iz hg.size, i8.keptN hg hr', ownFrom_keepsFrom (β := Unit) (B := w7.heap.size) (w₀ := W) (B' := wb.heap.size) (Nat.le_of_eq HZ.out.2.2.2.symm) () _ _ _ ik hg hr⟩
      case jassign =>
        intro l2 y W2 K hK
        gi_wp2_with fail
        exact hK
      case jbody =>
        rintro l2 pre2 y W2 hl2 hpre2 ⟨i1, i2, i3, i4, i9, iz, i8, ik⟩
        have hmem : y ∈ elS WA := by
          obtain ⟨t, ht⟩ := hpre2
          rw [← ht]
          simp
        have hyr : y < r.n := HWN.out y hmem
        have hyn : (y : Int) < (n : Int) := by have := HN.out; omega
        have hy16 : y < 16 := by have := HN.out; omega
        have hx16 : x < 16 := by have := HN.out; have := HXR.out; omega
        obtain ⟨nb, no, hpn, hnl, hnc⟩ := VR1.at_ HBK.out.sn hyr
        have hand := nd_and HR.out hyr X
        have hVl : seL (r.ac y).nd < 65536 := seL_lt _
        have hob : O.testBit y = decide ((r.ac y).to_ < day) := by rw [← HO.out, ou_bit, decide_eq_true hyr]; rfl
        have HCW : Hid (cwB r day X y = (!O.testBit y && decide (seL (r.ac y).nd &&& X = 0))) := hide (by
          unfold cwB
          rw [hob]
          congr 1
          rw [Bool.eq_iff_iff, decide_eq_true_iff]
          exact hand.symm)
        obtain ⟨V, hV⟩ : ∃ z, seL (r.ac y).nd = z := ⟨_, rfl⟩
        rw [hV] at hVl HCW hnc
        obtain ⟨C, hC⟩ : ∃ z, liN r day X L x pre2 = z := ⟨_, rfl⟩
        have hCl : C < 65536 := by rw [← hC]; exact li_lt HLL.out pre2
        have HCC := hide hC
        rw [hC] at i4
        have HS8 : Hid (∀ W, HpS w W g b D day de → Blk W h5 75 #[.int .u16 (X : Nat)] → Blk W h6 75 #[.int .u16 (O : Nat)] → (W.cell? ⟨h6, 0, none⟩ = some (.int .u16 (O : Nat)) ∧ W.cell? ⟨g, 0, none⟩ = some (.pointer (some ⟨b, 0, none⟩)) ∧ W.cell? ⟨b, 3, none⟩ = some (.slice (some ⟨nb, no, none⟩) n n) ∧ W.cell? ⟨nb, no + y, none⟩ = some (.int .u16 (V : Nat)) ∧ W.cell? ⟨h5, 0, none⟩ = some (.int .u16 (X : Nat)))) := hide fun W h k5 k6 => ⟨(blk1 k6).2.1, (HSA.out W h).1, by have := (HSA.out W h).2.2.2.1; rw [hpn] at this; exact this, (h.lo.cell (p := ⟨nb, no + y, none⟩) hnl).trans hnc, (blk1 k5).2.1⟩
        have Bd := hide (Below.refl W2.heap.size W2).drew
        have I1 := hide (i1.ext Bd.out)
        have I2 := hide (i2.ext Bd.out)
        have I3 := hide (i3.ext Bd.out)
        have I4 := hide (i4.ext Bd.out)
        have I8 := hide (i8.ext Bd.out)
        have I9 := hide (i9.keeps (keepsO Bd.out))
        have IK := hide (ik.trans ((keepsO Bd.out).from _))
        have IZ := hide (Nat.le_trans iz Bd.out.size)
        have HHA := hide (fun W => has_any O y W hou hy16)
        have a1 := and16 hVl HX.out.lt
        obtain ⟨z, hz⟩ : ∃ z, V &&& X = z := ⟨_, rfl⟩
        rw [hz] at a1 HCW
        clear hmem hyr hpn hnl hnc hand hob hV hC hpre2 i1 i2 i3 i4 i9 iz i8 ik hz
        gi_wp2_with fail
        refine wpIn_only ?_
        refine wpIn_region_J (fun W : World => (W.cell? ⟨h6, 0, none⟩ = some (.int .u16 (O : Nat)) ∧ W.cell? ⟨g, 0, none⟩ = some (.pointer (some ⟨b, 0, none⟩)) ∧ W.cell? ⟨b, 3, none⟩ = some (.slice (some ⟨nb, no, none⟩) n n) ∧ W.cell? ⟨nb, no + y, none⟩ = some (.int .u16 (V : Nat)) ∧ W.cell? ⟨h5, 0, none⟩ = some (.int .u16 (X : Nat)))) (by kernel_rfl) ?_
        generalize W2.drew = wc at Bd I1 I2 I3 I4 I8 I9 IK IZ ⊢
        refine wpAnyJ_take 0 (v := ?_) (by first | exact hF | exact wideFn) (HS8.out _ I1.out I2.out I3.out) rfl (by kernel_rfl) (by kernel_rfl) (by kernel_rfl) (by kernel_rfl) rfl ?_ (by first | exact fun _ _ _ h => h | exact fun _ _ _ h => hQ2 _ _ _ _ _ h) ?_
        rotate_left
        · intro W hSW
          simp only [glA, glB, glC]
          (try dsimp only at hSW)
          go_simp
          with_reducible rfl
        (try simp only [glA, glB, glC, Act.put, glD, glE, glF])
        refine wpAnyJ_take 1 (v := ?_) (by first | exact hF | exact wideFn) (HS8.out _ I1.out I2.out I3.out) rfl (by kernel_rfl) (by kernel_rfl) (by kernel_rfl) (by kernel_rfl) rfl ?_ (by first | exact fun _ _ _ h => h | exact fun _ _ _ h => hQ2 _ _ _ _ _ h) ?_
        rotate_left
        · intro W hSW
          simp only [glA, glB, glC]
          (try dsimp only at hSW)
          go_simp
          with_reducible rfl
        (try simp only [glA, glB, glC, Act.put, glD, glE, glF])
        refine wpAnyJ_one 2 rfl (by kernel_rfl) (fun K hK => ?_)
        simp only [glA, glB, glC]
        go_simp
        (with_reducible refine ((CallsIn.inRound l2 (CallsIn.inRound l (hwd (HHA.out wc))))).mono ?_)
        rintro e _ ⟨rfl, rfl⟩
        skip
        dsimp only
        refine hK.out _ _ (fun _ => HS8.out _ I1.out I2.out I3.out) ?_
        clear hK K
        (try simp only [glA, glB, glC, Act.put, glD, glE, glF])
        rcases hot : O.testBit y with _ | _
        · have hcw := HCW.out
          rw [hot] at hcw
          by_cases hz : z = 0
          · have hz1 : ((z : Int) == 0) = true := by rw [hz]; rfl
            rw [decide_eq_true hz] at hcw
            have HYE := hide (li_yes (x := x) HLL.out pre2 hcw)
            rw [HCC.out] at HYE
            clear hcw hot hz
            refine tk_start [3, 4, 5, 6, 7, 8, 9, 10, 11, 12, 13, 14, 15] ?_
            iterate 13
              refine tk_one (v := ?_) (by first | exact hF | exact wideFn) (HS8.out _ I1.out I2.out I3.out) rfl (by kernel_rfl) (by kernel_rfl) (by kernel_rfl) (by kernel_rfl) rfl ?_ (by first | exact fun _ _ _ h => h | exact fun _ _ _ h => hQ2 _ _ _ _ _ h) ?_
              rotate_left
              · intro W hSW
                simp only [glA, glB, glC]
                (try dsimp only at hSW)
                go_simp
                with_reducible rfl
              (try simp only [glA, glB, glC, Act.put, glD, glE, glF])
            refine tk_end ?_
            refine wpAnyJ_done (by kernel_rfl) ?_
            dsimp only [OnlyNormal]
            have Be := hide (Below.refl wc.heap.size wc).drew
            have HS9 : Hid (∀ W, Below wc.heap.size wc W → (W.cell? ⟨h7, 0, none⟩ = some (.int .u16 (C : Nat)) ∧ W.cell? ⟨h8, 0, none⟩ = some (.int .i64 x))) := hide fun W h => ⟨(blk1 (I4.out.ext h)).2.1, (blk1 (I8.out.ext h)).2.1⟩
            have HOF := hide (fun W => of1_any x W hx16)
            have a2 := not16 hCl (p2_lt hx16)
            obtain ⟨PX, hPX⟩ : ∃ z, 2 ^ x = z := ⟨_, rfl⟩
            rw [hPX] at HOF HYE a2
            obtain ⟨C2, hC2⟩ : ∃ z, anN C PX = z := ⟨_, rfl⟩
            rw [hC2] at HYE a2
            clear hPX hC2
            gi_wp2_with fail
            refine wpIn_only ?_
            refine wpIn_region_J (fun W : World => (W.cell? ⟨h7, 0, none⟩ = some (.int .u16 (C : Nat)) ∧ W.cell? ⟨h8, 0, none⟩ = some (.int .i64 x))) (by kernel_rfl) ?_
            generalize wc.drew = we at Be ⊢
            refine wpAnyJ_take 0 (v := ?_) (by first | exact hF | exact wideFn) (HS9.out _ Be.out) rfl (by kernel_rfl) (by kernel_rfl) (by kernel_rfl) (by kernel_rfl) rfl ?_ (by first | exact fun _ _ _ h => h | exact fun _ _ _ h => hQ2 _ _ _ _ _ h) ?_
            rotate_left
            · intro W hSW
              simp only [glA, glB, glC]
              (try dsimp only at hSW)
              go_simp
              with_reducible rfl
            (try simp only [glA, glB, glC, Act.put, glD, glE, glF])
            refine wpAnyJ_take 1 (v := ?_) (by first | exact hF | exact wideFn) (HS9.out _ Be.out) rfl (by kernel_rfl) (by kernel_rfl) (by kernel_rfl) (by kernel_rfl) rfl ?_ (by first | exact fun _ _ _ h => h | exact fun _ _ _ h => hQ2 _ _ _ _ _ h) ?_
            rotate_left
            · intro W hSW
              simp only [glA, glB, glC]
              (try dsimp only at hSW)
              go_simp
              with_reducible rfl
            (try simp only [glA, glB, glC, Act.put, glD, glE, glF])
            have hba : Below we.heap.size we (we.alloc (.cells #[.int .i64 x] 3)) := (Below.refl _ _).alloc (Nat.le_refl _) _
            refine wpAnyJ_one 2 rfl (by kernel_rfl) (fun K hK => ?_)
            simp only [glA, glB, glC]
            go_simp
            refine hK.out _ _ (fun _ => HS9.out _ (Be.out.trans (hba.mono Be.out.size))) ?_
            clear hK K
            (try simp only [glA, glB, glC, Act.put, glD, glE, glF])
            refine wpAnyJ_one 3 rfl (by kernel_rfl) (fun K hK => ?_)
            simp only [glA, glB, glC]
            go_simp
            (with_reducible refine ((CallsIn.inRound l2 (CallsIn.inRound l (hwd (HOF.out we))))).mono ?_)
            rintro e wf ⟨rfl, hf⟩
            have Bf := hide (Be.out.trans (hf.mono Be.out.size))
            dsimp only
            refine hK.out _ _ (fun _ => HS9.out _ Bf.out) ?_
            clear hK K
            (try simp only [glA, glB, glC, Act.put, glD, glE, glF])
            refine wpAnyJ_take 4 (v := ?_) (by first | exact hF | exact wideFn) (HS9.out _ Bf.out) rfl (by kernel_rfl) (by kernel_rfl) (by kernel_rfl) (by kernel_rfl) rfl ?_ (by first | exact fun _ _ _ h => h | exact fun _ _ _ h => hQ2 _ _ _ _ _ h) ?_
            rotate_left
            · intro W hSW
              simp only [glA, glB, glC]
              (try dsimp only at hSW)
              go_simp
              with_reducible rfl
            (try simp only [glA, glB, glC, Act.put, glD, glE, glF])
            have N4 := hide (I4.out.ext Bf.out)
            obtain ⟨f1, c1, c2⟩ := blk1 N4.out
            refine wpAnyJ_one 5 rfl (by kernel_rfl) (fun K hK => ?_)
            simp only [glA, glB, glC]
            go_simp
            refine hK.out _ _ (fun h => absurd h (by rw [show lastOp _ _ _ = true from by kernel_rfl]; simp)) ?_
            clear hK K
            (try simp only [glA, glB, glC, Act.put, glD, glE, glF])
            refine wpAnyJ_done (by kernel_rfl) ?_
            dsimp only [OnlyNormal]
            have hne : ∀ k, k < h7 → k ≠ h7 := fun k h => by omega
            have h70 := HW7.out
            have h77 := H7.out.lt
            have Bg := hide (Bd.out.trans (Bf.out.mono Bd.out.size))
            refine ⟨((keepsO Bg.out).from _).trans ((KeepsOthers.setCell wf _ _).from _), trivial, (I1.out.ext Bf.out).set h70.1 HG7.out _, (I2.out.ext Bf.out).far (p := ⟨h7, 0, none⟩) (by show h5 ≠ h7; omega) _, (I3.out.ext Bf.out).far (p := ⟨h7, 0, none⟩) (by show h6 ≠ h7; omega) _, ?_, (I9.out.keeps (keepsO Bf.out)).keeps (KeepsOthers.setCell wf _ _), (by simpa using Nat.le_trans IZ.out Bf.out.size), (I8.out.ext Bf.out).far (p := ⟨h7, 0, none⟩) (by show h8 ≠ h7; omega) _, (IK.out.trans ((keepsO Bf.out).from _)).trans ((KeepsOthers.setCell wf _ _).from _)⟩
            rw [HYE.out]
            simpa using N4.out.set_ 0 (.int .u16 (C2 : Nat))
          · have hz1 : ((z : Int) == 0) = false := by rw [beq_eq_false_iff_ne]; omega
            rw [decide_eq_false hz] at hcw
            clear hot hz
            refine tk_start [3, 4, 5, 6, 7, 8, 9, 10, 11, 12, 13, 14, 15] ?_
            iterate 13
              refine tk_one (v := ?_) (by first | exact hF | exact wideFn) (HS8.out _ I1.out I2.out I3.out) rfl (by kernel_rfl) (by kernel_rfl) (by kernel_rfl) (by kernel_rfl) rfl ?_ (by first | exact fun _ _ _ h => h | exact fun _ _ _ h => hQ2 _ _ _ _ _ h) ?_
              rotate_left
              · intro W hSW
                simp only [glA, glB, glC]
                (try dsimp only at hSW)
                go_simp
                with_reducible rfl
              (try simp only [glA, glB, glC, Act.put, glD, glE, glF])
            refine tk_end ?_
            refine wpAnyJ_done (by kernel_rfl) ?_
            dsimp only [OnlyNormal]
            have HNO := hide (li_no (L := L) (x := x) pre2 hcw)
            rw [HCC.out] at HNO
            clear hcw
            gi_wp2_with fail
            refine ⟨(keepsO Bd.out).from _, trivial, I1.out, I2.out, I3.out, ?_, I9.out, IZ.out, I8.out, IK.out⟩
            rw [HNO.out]
            exact I4.out
        · have hcw := HCW.out
          rw [hot] at hcw
          clear hot
          refine wpAnyJ_take 3 (v := ?_) (by first | exact hF | exact wideFn) (HS8.out _ I1.out I2.out I3.out) rfl (by kernel_rfl) (by kernel_rfl) (by kernel_rfl) (by kernel_rfl) rfl ?_ (by first | exact fun _ _ _ h => h | exact fun _ _ _ h => hQ2 _ _ _ _ _ h) ?_
          rotate_left
          · intro W hSW
            simp only [glA, glB, glC]
            (try dsimp only at hSW)
            go_simp
            with_reducible rfl
          (try simp only [glA, glB, glC, Act.put, glD, glE, glF])
          refine wpAnyJ_take 4 (v := ?_) (by first | exact hF | exact wideFn) (HS8.out _ I1.out I2.out I3.out) rfl (by kernel_rfl) (by kernel_rfl) (by kernel_rfl) (by kernel_rfl) rfl ?_ (by first | exact fun _ _ _ h => h | exact fun _ _ _ h => hQ2 _ _ _ _ _ h) ?_
          rotate_left
          · intro W hSW
            simp only [glA, glB, glC]
            (try dsimp only at hSW)
            go_simp
            with_reducible rfl
          (try simp only [glA, glB, glC, Act.put, glD, glE, glF])
          refine tk_start [5, 6, 7, 8, 9, 10, 11, 12, 13, 14] ?_
          iterate 10
            refine tk_skip (by first | exact hF | exact wideFn) (HS8.out _ I1.out I2.out I3.out) rfl (by kernel_rfl) (by kernel_rfl) (by kernel_rfl) (by kernel_rfl) rfl (by first | exact fun _ _ _ h => h | exact fun _ _ _ h => hQ2 _ _ _ _ _ h) ?_
            (try simp only [glA, glB, glC, Act.put, glD, glE, glF])
          refine tk_end ?_
          refine wpAnyJ_take 15 (v := ?_) (by first | exact hF | exact wideFn) (HS8.out _ I1.out I2.out I3.out) rfl (by kernel_rfl) (by kernel_rfl) (by kernel_rfl) (by kernel_rfl) rfl ?_ (by first | exact fun _ _ _ h => h | exact fun _ _ _ h => hQ2 _ _ _ _ _ h) ?_
          rotate_left
          · intro W hSW
            simp only [glA, glB, glC]
            (try dsimp only at hSW)
            go_simp
            with_reducible rfl
          (try simp only [glA, glB, glC, Act.put, glD, glE, glF])
          refine wpAnyJ_done (by kernel_rfl) ?_
          dsimp only [OnlyNormal]
          have HNO := hide (li_no (L := L) (x := x) pre2 hcw)
          rw [HCC.out] at HNO
          clear hcw
          gi_wp2_with fail
          refine ⟨(keepsO Bd.out).from _, trivial, I1.out, I2.out, I3.out, ?_, I9.out, IZ.out, I8.out, IK.out⟩
          rw [HNO.out]
          exact I4.out
      case jdone =>
        rintro W2 ⟨i1, i2, i3, i4, i9, iz, i8, ik⟩
        rw [HLI.out] at i4
        exact ⟨ik, trivial, i1, i2, i3, i4, i9, iz⟩
      case jstop =>
        rintro c pre2 W2 hSp h
        exact h.elim
    case hdone =>
      rintro Dm W hD ⟨h1, h2, h3, h4, h9, hz⟩ hK
      rw [lf_all HX.out.lt] at h4
      obtain ⟨Y, hY⟩ : ∃ y, hoS r day X = y := ⟨_, rfl⟩
      rw [hY] at h4
      dsimp only
      have HM2 := hide (h9.more HL7.out hD hK)
      have HY := hide hY
      have H1 := hide h1
      have H2 := hide h2
      have H3 := hide h3
      obtain ⟨f4, c4, e4⟩ := blk1 h4
      obtain ⟨f5, c5, e5⟩ := blk1 h2
      clear hY h1 h2 h3 h4 h9 hz hK hst
      by_cases hyx : Y = X
      · subst hyx
        have HV := hide (HQ.out Y HX.out HY.out)
        have hb : ((Y : Int) == (Y : Int)) = true := by simp
        gi_wp2_with fail
        refine leaves_marks (Dm :: Ds) W H1.out.lo H1.out.lo.size HM2.out.ne (fun D' hD' => ⟨(HM2.out.at_ D' hD').1, (HM2.out.at_ D' hD').2.2⟩) (fun W' hW' => ?_)
        refine ⟨.int .u16 (Y : Nat), by simp [results, Tryd.results52, go_sem], ?_⟩
        rw [HV.out]
        exact ⟨rfl, hW'⟩
      · have hb : ((Y : Int) == (X : Int)) = false := by rw [beq_eq_false_iff_ne]; omega
        have hless := hoS_less (r := r) (day := day) HX.out.lt (by rw [HY.out]; exact hyx)
        rw [HY.out] at hless
        have HLS := hide hless
        clear hyx hless
        gi_wp2_with fail
        have h5k : Blk (W.setCell ⟨h5, 0, none⟩ (.int .u16 (Y : Nat))) h5 75 #[.int .u16 (Y : Nat)] := by simpa using H2.out.set_ 0 (.int .u16 (Y : Nat))
        refine ⟨⟨_, _, _, _, _, _, _, _, Dm :: Ds, Y, rfl, H1.out.set HLO.out.1 HLO.out.2.1 _, h5k, H3.out.far (p := ⟨h5, 0, none⟩) (by show h6 ≠ h5; have := HLO.out.2.2; omega) _, by simpa using HM2.out.keeps (KeepsOthers.setCell W ⟨h5, 0, none⟩ (.int .u16 (Y : Nat))), by rw [← HY.out]; exact HX.out.next⟩, ?_⟩
        show hpM h5 _ < hpM h5 _
        rw [hpM_eq h5k, HMU.out]
        exact HLS.out
    case hstop =>
      rintro Dm c pre W hD hSp h hK
      exact h.elim
  refine wpIn_only ?_
  refine wpIn_region_J (fun W : World => (W.cell? ⟨g, 0, none⟩ = some (.pointer (some ⟨b, 0, none⟩)) ∧ (W.cell? ⟨g + 1, 0, none⟩ = some (.int .u16 (D : Nat)) ∧ W.cell? ⟨g + 1, 1, none⟩ = some (.int .i64 day)) ∧ (W.cell? ⟨b, 0, none⟩ = some (.slice d.A n d.c) ∧ W.cell? ⟨b, 3, none⟩ = some (.slice q.pn n n) ∧ W.cell? ⟨b, 4, none⟩ = some (.slice q.pw n n)))) (by kernel_rfl) ?_
  replace HS1 := hide (HS1.out.ext (Below.refl (((w.alloc (.cells #[.pointer (some ⟨b, 0, none⟩)] 73)).alloc (.cells #[.int .u16 (D : Nat), .int .i64 day, .int .i64 de] 77))).heap.size ((w.alloc (.cells #[.pointer (some ⟨b, 0, none⟩)] 73)).alloc (.cells #[.int .u16 (D : Nat), .int .i64 day, .int .i64 de] 77))).drew)
  generalize (((w.alloc (.cells #[.pointer (some ⟨b, 0, none⟩)] 73)).alloc (.cells #[.int .u16 (D : Nat), .int .i64 day, .int .i64 de] 77))).drew = wd at HS1 ⊢
  refine tk_start [0, 1, 2, 3, 4, 5, 6, 7, 8, 9, 10] ?_
  iterate 11
    refine tk_one (v := ?_) (by first | exact hF | exact wideFn) (HSA.out _ HS1.out) rfl (by kernel_rfl) (by kernel_rfl) (by kernel_rfl) (by kernel_rfl) rfl ?_ (by first | exact fun _ _ _ h => h | exact fun _ _ _ h => hQ2 _ _ _ _ _ h) ?_
    rotate_left
    · intro W hSW
      simp only [glA, glB, glC]
      (try dsimp only at hSW)
      go_simp
      with_reducible rfl
    (try simp only [glA, glB, glC, Act.put, glD, glE, glF])
  refine tk_end ?_
  refine wpAnyJ_two 11 13 rfl rfl (by kernel_rfl) (fun K hK => ?_) (fun K hK => ?_)
  · simp only [glA, glB, glC]
    go_simp
    (with_reducible refine ((hwd (HSE.out wd (HBK.out.ext HS1.out.lo)))).mono ?_)
    rintro e w2 ⟨rfl, h2⟩
    have HS2 := hide (HS1.out.ext h2)
    dsimp only
    refine hK.out _ _ (fun _ => HSA.out _ HS2.out) ?_
    clear hK K
    (try simp only [glA, glB, glC, Act.put, glD, glE, glF])
    refine wpAnyJ_take 12 (v := ?_) (by first | exact hF | exact wideFn) (HSA.out _ HS2.out) rfl (by kernel_rfl) (by kernel_rfl) (by kernel_rfl) (by kernel_rfl) rfl ?_ (by first | exact fun _ _ _ h => h | exact fun _ _ _ h => hQ2 _ _ _ _ _ h) ?_
    rotate_left
    · intro W hSW
      simp only [glA, glB, glC]
      (try dsimp only at hSW)
      go_simp
      with_reducible rfl
    (try simp only [glA, glB, glC, Act.put, glD, glE, glF])
    have hb3 : Below w2.heap.size w2 (w2.alloc (.cells #[.int .u16 0] 75)) := (Below.refl _ _).alloc (Nat.le_refl _) _
    have k5 := Blk.new w2 75 #[.int .u16 0]
    have HS3 := hide (HS2.out.ext hb3)
    refine wpAnyJ_one 13 rfl (by kernel_rfl) (fun K hK => ?_)
    simp only [glA, glB, glC]
    go_simp
    refine hK.out _ _ (fun _ => HSA.out _ HS3.out) ?_
    clear hK K
    (try simp only [glA, glB, glC, Act.put, glD, glE, glF])
    obtain ⟨f1, c1, c2⟩ := blk1 k5
    refine wpAnyJ_one 14 rfl (by kernel_rfl) (fun K hK => ?_)
    simp only [glA, glB, glC]
    go_simp
    refine hK.out _ _ (fun h => absurd h (by rw [show lastOp _ _ _ = true from by kernel_rfl]; simp)) ?_
    clear hK K
    (try simp only [glA, glB, glC, Act.put, glD, glE, glF])
    refine wpAnyJ_done (by kernel_rfl) ?_
    dsimp only [OnlyNormal]
    have hlo : w.heap.size ≤ w2.heap.size ∧ g + 1 < w2.heap.size := ⟨HS2.out.lo.size, HS2.out.k3.lt⟩
    exact REST1.out _ _ hlo.1 hlo.2 (HS2.out.ext ((Below.refl _ _).alloc (Nat.le_refl _) _)) (Blk.new w2 75 #[.int .u16 (X0 : Nat)])
  · have hb3 : Below wd.heap.size wd (wd.alloc (.cells #[.int .u16 0] 75)) := (Below.refl _ _).alloc (Nat.le_refl _) _
    have k5 := Blk.new wd 75 #[.int .u16 0]
    have HS3 := hide (HS1.out.ext hb3)
    have hlo : w.heap.size ≤ wd.heap.size ∧ g + 1 < wd.heap.size := ⟨HS1.out.lo.size, HS1.out.k3.lt⟩
    simp only [glA, glB, glC]
    go_simp
    refine hK.out _ _ (fun _ => HSA.out _ HS3.out) ?_
    clear hK K
    (try simp only [glA, glB, glC, Act.put, glD, glE, glF])
    refine wpAnyJ_one 11 rfl (by kernel_rfl) (fun K hK => ?_)
    simp only [glA, glB, glC]
    go_simp
    (with_reducible refine ((hwd (HSE.out _ (HBK.out.ext HS3.out.lo)))).mono ?_)
    rintro e w2 ⟨rfl, h2⟩
    have HS2 := hide (HS3.out.ext h2)
    dsimp only
    refine hK.out _ _ (fun _ => HSA.out _ HS2.out) ?_
    clear hK K
    (try simp only [glA, glB, glC, Act.put, glD, glE, glF])
    refine wpAnyJ_take 12 (v := ?_) (by first | exact hF | exact wideFn) (HSA.out _ HS2.out) rfl (by kernel_rfl) (by kernel_rfl) (by kernel_rfl) (by kernel_rfl) rfl ?_ (by first | exact fun _ _ _ h => h | exact fun _ _ _ h => hQ2 _ _ _ _ _ h) ?_
    rotate_left
    · intro W hSW
      simp only [glA, glB, glC]
      (try dsimp only at hSW)
      go_simp
      with_reducible rfl
    (try simp only [glA, glB, glC, Act.put, glD, glE, glF])
    replace k5 := k5.ext h2
    obtain ⟨f1, c1, c2⟩ := blk1 k5
    refine wpAnyJ_one 14 rfl (by kernel_rfl) (fun K hK => ?_)
    simp only [glA, glB, glC]
    go_simp
    refine hK.out _ _ (fun h => absurd h (by rw [show lastOp _ _ _ = true from by kernel_rfl]; simp)) ?_
    clear hK K
    (try simp only [glA, glB, glC, Act.put, glD, glE, glF])
    refine wpAnyJ_done (by kernel_rfl) ?_
    dsimp only [OnlyNormal]
    exact REST1.out _ _ hlo.1 hlo.2 (HS2.out.set hlo.1 hlo.2 _) (by simpa using k5.set_ 0 (.int .u16 (X0 : Nat)))
end Go.Proofs.YtcgdalabenflmaaDoor
/- Rite: Hopeless, walked. -/
namespace Go.Proofs.YtcgdalabenflmaaDoor
open Go Go.RowKit Go.Shelf
set_option maxHeartbeats 8000000
set_option maxRecDepth 100000
theorem hopeless_rite (d : Rad) (r : Rit) (A : Option Addr) (c : Nat) (l : List (Int × Int)) (day : Int) (w : World) (hd : RtR w d r) (hz : RtZ r) (hl : l.length ≤ 1000000) (hD : DsR w A l) (hT : TB w) :
    Calls Tryd.prog 22 #[.agg #[.slice d.A r.n d.c, .int .i64 r.last, .int .i64 r.toil], .slice A l.length c, .int .i64 day] w (AskPost w r l day (if riB r = true then hpS r ((folF r m0 l 0).1.on day) else 0)) := by
  have HAS : Hid (∀ W, RtR W d r → DsR W A l → TB W → Calls Tryd.prog 48 #[.agg #[.slice d.A r.n d.c, .int .i64 r.last, .int .i64 r.toil], .slice A l.length c, .int .i64 day, .func (.func 52) #[] #[]] W (AskPost W r l day (if riB r = true then hpS r ((folF r m0 l 0).1.on day) else 0))) := hide fun W h1 h2 h3 =>
    asked_any _ _ (by split; exact hp_lt _ _; decide) d r A c l day W h1 hz hl h2 h3 (fun _ _ => rfl) (fun hr W b q hB hT => by rw [if_pos hr]; exact hopeless_any b d q r _ W (riB_ok hr) (mo_dlt hr l day) hB hT)
  have HB1 : Hid (Below w.heap.size w (w.alloc (.cells #[.slice d.A r.n d.c, .int .i64 r.last, .int .i64 r.toil] 24))) := hide ((Below.refl _ _).alloc (Nat.le_refl _) _)
  have G1 := hide (Blk.new w 24 #[.slice d.A r.n d.c, .int .i64 r.last, .int .i64 r.toil])
  have HRT := hide (hd.ext HB1.out)
  have HD := hide (hD.ext HB1.out)
  have HTB := hide (hT.ext HB1.out)
  have HO := hide (HAS.out _ HRT.out HD.out HTB.out)
  clear hd hz hD hl hT HAS
  obtain ⟨S, hS⟩ : ∃ x, (if riB r = true then hpS r ((folF r m0 l 0).1.on day) else 0) = x := ⟨_, rfl⟩
  rw [hS] at HO ⊢
  clear hS
  obtain ⟨ec, hec⟩ : ∃ x, frC r l day = x := ⟨_, rfl⟩
  have HEC := hide hec
  clear hec
  go_enter Tryd.func22, Tryd.ntmps22
  go_upto_region 1 with fail
  generalize w.alloc (.cells #[.slice d.A r.n d.c, .int .i64 r.last, .int .i64 r.toil] 24) = w1 at HB1 G1 HO HD HRT HTB ⊢
  generalize w.heap.size = G at G1 ⊢
  obtain ⟨g9, g0, g1, g2, -⟩ := blk3 G1.out
  go_wp2_with fail
  refine HO.out.mono ?_
  rintro e w2 ⟨⟨hc, rfl⟩ | ⟨hc, hb, v, rfl, hv⟩, hbl⟩
  · have HBL := hide (HB1.out.trans (hbl.mono HB1.out.size))
    rw [HEC.out] at hc ⊢
    have HCH := hide hc
    clear hc hbl g9 g0 g1 g2 HO HD
    go_wp2_with fail
    go_ret2
    exact ⟨.inl ⟨by rw [HEC.out]; exact HCH.out, by rw [HEC.out]; rfl⟩, HBL.out⟩
  · have HBL := hide (HB1.out.trans (hbl.mono HB1.out.size))
    have HV := hide (And.intro hc (And.intro hb (OwnJ.low3 hv HB1.out.size)))
    clear hc hb hv hbl g9 g0 g1 g2 HO HD
    go_wp2_with fail
    go_ret2
    exact ⟨.inr ⟨HV.out.1, HV.out.2.1, v, rfl, HV.out.2.2⟩, HBL.out⟩
end Go.Proofs.YtcgdalabenflmaaDoor
/- Rite, plain: the document's examples. -/
namespace Go.Proofs.YtcgdalabenflmaaDoor
open Go Go.RowKit
set_option maxRecDepth 100000
theorem fi_ri (t : Int) (h : t = 1 ∨ t = 2) : riB (fiR t) = true := by
  rcases h with rfl | rfl <;> kernel_rfl
theorem fi_f0 : frC (fiR 1) [] 0 = 0 := by kernel_rfl
theorem fi_f3 : frC (fiR 2) [] 3 = 0 := by kernel_rfl
theorem fi_f13 : frC (fiR 1) [] 3 = 0 := by kernel_rfl
theorem fi_f4 : frC (fiR 1) [] 4 = 0 := by kernel_rfl
theorem fi_a0 : aftC (fiR 1) [] = 0 := by kernel_rfl
theorem fi_a2 : aftC (fiR 1) [(0, 0), (1, 1)] = 0 := by kernel_rfl
theorem fi_w0 : fwN (fiR 1) ((folF (fiR 1) m0 [] 0).1.on 0) = 2 := by kernel_rfl
theorem fi_w3 : fwN (fiR 2) ((folF (fiR 2) m0 [] 0).1.on 3) = 2 := by kernel_rfl
theorem fi_w13 : fwN (fiR 1) ((folF (fiR 1) m0 [] 0).1.on 3) = 11 := by kernel_rfl
theorem fi_w12 : fwN (fiR 1) ((folF (fiR 1) m0 [] 0).1.on 2) = 2 := by kernel_rfl
theorem fi_w14 : fwN (fiR 1) ((folF (fiR 1) m0 [] 0).1.on 4) = 11 := by kernel_rfl
theorem fi_w15 : fwN (fiR 1) ((folF (fiR 1) m0 [] 0).1.on 5) = 11 := by kernel_rfl
theorem fi_l0 : rpL (fiR 1) ((folF (fiR 1) m0 [] 0).1.on 0) 2 = [(0, 0), (1, 1)] := by kernel_rfl
theorem fi_l3 : rpL (fiR 2) ((folF (fiR 2) m0 [] 0).1.on 3) 2 = [(3, 2), (3, 1)] := by kernel_rfl
theorem fi_j : (folF (fiR 1) m0 [(1, 1)] 0).2 = (0, 4) := by kernel_rfl
theorem fi_h : elS (hpS (fiR 1) ((folF (fiR 1) m0 [] 0).1.on 4)) = [1] := by kernel_rfl
theorem fi_lat {x : Int} (h : LatR (fiR 1) (folF (fiR 1) m0 [] 0).1 x) : x = 2 := by
  obtain ⟨⟨h1, h2, h3⟩, h4⟩ := h
  have hd : (folF (fiR 1) m0 [] 0).1.day = 0 := rfl
  have hl : (fiR 1).last = 5 := rfl
  rw [hd] at h1
  rw [hl] at h2 h4
  by_cases e : x < 2
  · exact absurd (by rw [fi_w12]; decide) (h4 2 e (by decide))
  · rcases (show x = 2 ∨ x = 3 ∨ x = 4 ∨ x = 5 by omega) with rfl | rfl | rfl | rfl
    · rfl
    · rw [fi_w13] at h3; exact absurd h3 (by decide)
    · rw [fi_w14] at h3; exact absurd h3 (by decide)
    · rw [fi_w15] at h3; exact absurd h3 (by decide)
theorem fi_t : wrT (fiR 1) [(0, 0), (1, 1)] = [48, 32, 107, 105, 110, 100, 108, 101, 10, 49, 32, 111, 102, 102, 101, 114, 10] := by
  have e0 : Lib.decDigits (0 : Int).toNat = [48] := by rw [Lib.decDigits, dif_pos (by decide)]; rfl
  have e1 : Lib.decDigits (1 : Int).toNat = [49] := by rw [Lib.decDigits, dif_pos (by decide)]; rfl
  unfold wrT wrC
  simp only [List.flatMap_cons, List.flatMap_nil, e0, e1]
  rfl
theorem fi_z (t : Int) : RtZ (fiR t) := by
  have hn : (fiR t).n = 3 := rfl
  have h : ∀ k, k < (fiR t).n → k = 0 ∨ k = 1 ∨ k = 2 := fun k hk => by omega
  refine ⟨by rw [hn]; decide, fun k hk => ?_, fun k hk => ?_, fun k hk => ?_⟩ <;> rw [show (fiR t).ac k = (fiR 0).ac k from rfl] <;> rcases h k hk with rfl | rfl | rfl <;> decide
end Go.Proofs.YtcgdalabenflmaaDoor
/- Rite: known, walked. -/
namespace Go.Proofs.YtcgdalabenflmaaDoor
open Go Go.RowKit Go.Shelf
set_option maxHeartbeats 8000000
set_option maxRecDepth 100000
theorem kn_fire (t : Int) (w : World) : Calls Tryd.prog 36 #[.int .i64 t] w fun e w' => ∃ d, e = .returned (.agg #[.slice d.A 3 d.c, .int .i64 5, .int .i64 t]) ∧ RtR w' d (fiR t) ∧ Below w.heap.size w w' := fire_any t w
theorem nil_ds (w : World) : DsR w none [] := fun h => absurd h (by simp)
theorem kn_rep (t day : Int) (l : List (Int × Int)) (d : Rad) (w : World) (hd : RtR w d (fiR t)) (hT : TB w) (hr : riB (fiR t) = true) (h0 : frC (fiR t) [] day = 0) (h1 : fwN (fiR t) ((folF (fiR t) m0 [] 0).1.on day) = l.length) (h2 : l.length < 11) (h3 : rpL (fiR t) ((folF (fiR t) m0 [] 0).1.on day) l.length = l) :
    Calls Tryd.prog 11 #[.agg #[.slice d.A 3 d.c, .int .i64 5, .int .i64 t], .slice none 0 0, .int .i64 day] w fun e w' => ∃ A c, e = .returned (.tuple #[.slice A l.length c, .int .i64 0]) ∧ OwnD w' w.heap.size (.slice A l.length c) l ∧ Below w.heap.size w w' := by
  refine (repair_rite d (fiR t) none 0 [] day w hd (fi_z t) (by simp) (nil_ds w) hT).mono ?_
  rintro e w' ⟨⟨hc, -⟩ | ⟨-, -, ⟨hw, -⟩ | ⟨-, v, rfl, ho⟩⟩, hb⟩
  · exact absurd h0 hc
  · omega
  · rw [h1, h3] at ho
    obtain ⟨A, c, rfl⟩ := own_shape ho
    exact ⟨A, c, rfl, ho, hb⟩
theorem kn_none (d : Rad) (w : World) (hd : RtR w d (fiR 1)) (hT : TB w) :
    Calls Tryd.prog 11 #[.agg #[.slice d.A 3 d.c, .int .i64 5, .int .i64 1], .slice none 0 0, .int .i64 3] w fun e w' => e = .returned (.tuple #[.slice none 0 0, .int .i64 7]) ∧ Below w.heap.size w w' := by
  refine (repair_rite d (fiR 1) none 0 [] 3 w hd (fi_z 1) (by simp) (nil_ds w) hT).mono ?_
  rintro e w' ⟨⟨hc, -⟩ | ⟨-, -, ⟨hw, rfl⟩ | ⟨hw, -⟩⟩, hb⟩
  · exact absurd fi_f13 hc
  · exact ⟨rfl, hb⟩
  · rw [fi_w13] at hw; exact absurd hw (by decide)
theorem kn_lat (d : Rad) (w : World) (hd : RtR w d (fiR 1)) (hT : TB w) :
    Calls Tryd.prog 14 #[.agg #[.slice d.A 3 d.c, .int .i64 5, .int .i64 1], .slice none 0 0] w fun e w' => e = .returned (.tuple #[.int .i64 2, .int .i64 0]) ∧ Below w.heap.size w w' := by
  refine (latest_rite d (fiR 1) none 0 [] w hd (fi_z 1) (by simp) (nil_ds w) hT).mono ?_
  rintro e w' ⟨⟨hc, -⟩ | ⟨-, -, ⟨x, hx, rfl⟩ | ⟨hn, -⟩⟩, hb⟩
  · exact absurd fi_a0 hc
  · rw [fi_lat hx]; exact ⟨rfl, hb⟩
  · exact absurd (by rw [fi_w12]; decide) (hn 2 (by decide) (by decide))
theorem kn_hop (d : Rad) (w : World) (hd : RtR w d (fiR 1)) (hT : TB w) :
    Calls Tryd.prog 22 #[.agg #[.slice d.A 3 d.c, .int .i64 5, .int .i64 1], .slice none 0 0, .int .i64 4] w fun e w' => ∃ A c, e = .returned (.tuple #[.slice A 1 c, .int .i64 0]) ∧ OwnJ w' w.heap.size (.slice A 1 c) [1] ∧ Below w.heap.size w w' := by
  refine (hopeless_rite d (fiR 1) none 0 [] 4 w hd (fi_z 1) (by simp) (nil_ds w) hT).mono ?_
  rintro e w' ⟨⟨hc, -⟩ | ⟨-, -, v, rfl, ho⟩, hb⟩
  · exact absurd fi_f4 hc
  · rw [if_pos (fi_ri 1 (.inl rfl)), fi_h] at ho
    obtain ⟨A, c, rfl⟩ := own_shape ho
    exact ⟨A, c, rfl, ho, hb⟩
theorem kn_jud (d : Rad) (A : Option Addr) (c : Nat) (w : World) (hd : RtR w d (fiR 1)) (hD : DsR w A [(1, 1)]) :
    Calls Tryd.prog 30 #[.agg #[.slice d.A 3 d.c, .int .i64 5, .int .i64 1], .slice A 1 c] w fun e w' => e = .returned (.tuple #[.int .i64 0, .int .i64 4, .int .i64 0]) ∧ Below w.heap.size w w' := by
  refine (judge_any d (fiR 1) A c [(1, 1)] w hd (fi_z 1) (by simp) hD).mono ?_
  rintro e w' ⟨rfl, hb⟩
  rw [if_pos (fi_ri 1 (.inl rfl)), if_pos (fi_ri 1 (.inl rfl)), if_pos (fi_ri 1 (.inl rfl)), fi_j]
  exact ⟨rfl, hb⟩
theorem kn_wri (d : Rad) (A : Option Addr) (c : Nat) (w : World) (hd : RtR w d (fiR 1)) (hD : DsR w A [(0, 0), (1, 1)]) :
    Calls Tryd.prog 37 #[.agg #[.slice d.A 3 d.c, .int .i64 5, .int .i64 1], .slice A 2 c] w fun e w' => e = .returned (.tuple #[.string ⟨#[48, 32, 107, 105, 110, 100, 108, 101, 10, 49, 32, 111, 102, 102, 101, 114, 10]⟩, .int .i64 0]) ∧ Below w.heap.size w w' := by
  refine (write_rite d (fiR 1) A c [(0, 0), (1, 1)] w hd (fi_z 1) (by simp) hD).mono ?_
  rintro e w' ⟨⟨hc, -⟩ | ⟨-, -, rfl⟩, hb⟩
  · exact absurd fi_a2 hc
  · rw [fi_t]; exact ⟨rfl, hb⟩
theorem blk_ds (w : World) (l : List (Int × Int)) : DsR (w.alloc (.cells (cellsD l).toArray 60)) (some ⟨w.heap.size, 0, none⟩) l := fun _ => by
  refine ⟨w.heap.size, 0, rfl, by simp, fun k i hk hi => ?_⟩
  have h := (Blk.new w 60 (cellsD l).toArray).cell (k * 2 + i)
  rw [show 0 + k * 2 + i = k * 2 + i by omega, h]
  simpa using cellsD_at l k i hk hi
theorem known_any (w : World) (hT : TB w) : Calls Tryd.prog 10 #[] w fun e w' => e = .returned (.bool true) ∧ Below w.heap.size w w' := by
  have HT := hide hT
  go_enter Tryd.func10, Tryd.ntmps10
  go_wp2_with fail
  refine (kn_fire 1 w).mono ?_
  rintro e w1 ⟨d1, rfl, hr1, hb1⟩
  have H1 := hide (kn_rep 1 0 [(0, 0), (1, 1)] d1 w1 hr1 (HT.out.ext hb1) (fi_ri 1 (.inl rfl)) fi_f0 fi_w0 (by decide) fi_l0)
  have B1 := hide hb1
  clear hr1 hb1
  go_wp2_with fail
  refine H1.out.mono ?_
  rintro e w2 ⟨A2, c2, rfl, ho2, hb2⟩
  have O2 := hide ho2.dsr.2
  have B2 := hide (B1.out.trans (hb2.mono B1.out.size))
  clear ho2 hb2 H1 B1
  go_wp2_with fail
  refine (kn_fire 2 w2).mono ?_
  rintro e w3 ⟨d3, rfl, hr3, hb3⟩
  have H3 := hide (kn_rep 2 3 [(3, 2), (3, 1)] d3 w3 hr3 (HT.out.ext (B2.out.trans (hb3.mono B2.out.size))) (fi_ri 2 (.inr rfl)) fi_f3 fi_w3 (by decide) fi_l3)
  have B3 := hide (B2.out.trans (hb3.mono B2.out.size))
  replace O2 := hide (O2.out.ext hb3)
  clear hr3 hb3 B2
  go_wp2_with fail
  refine H3.out.mono ?_
  rintro e w4 ⟨A4, c4, rfl, ho4, hb4⟩
  have O4 := hide ho4.dsr.2
  replace O2 := hide (O2.out.ext hb4)
  have B4 := hide (B3.out.trans (hb4.mono B3.out.size))
  clear ho4 hb4 H3 B3
  go_wp2_with fail
  refine (kn_fire 1 w4).mono ?_
  rintro e w5 ⟨d5, rfl, hr5, hb5⟩
  have H5 := hide (kn_none d5 w5 hr5 (HT.out.ext (B4.out.trans (hb5.mono B4.out.size))))
  have B5 := hide (B4.out.trans (hb5.mono B4.out.size))
  replace O2 := hide (O2.out.ext hb5)
  replace O4 := hide (O4.out.ext hb5)
  clear hr5 hb5 B4
  go_wp2_with fail
  refine H5.out.mono ?_
  rintro e w6 ⟨rfl, hb6⟩
  have B6 := hide (B5.out.trans (hb6.mono B5.out.size))
  replace O2 := hide (O2.out.ext hb6)
  replace O4 := hide (O4.out.ext hb6)
  clear hb6 H5 B5
  go_wp2_with fail
  refine (kn_fire 1 w6).mono ?_
  rintro e w7 ⟨d7, rfl, hr7, hb7⟩
  have H7 := hide (kn_lat d7 w7 hr7 (HT.out.ext (B6.out.trans (hb7.mono B6.out.size))))
  have B7 := hide (B6.out.trans (hb7.mono B6.out.size))
  replace O2 := hide (O2.out.ext hb7)
  replace O4 := hide (O4.out.ext hb7)
  clear hr7 hb7 B6
  go_wp2_with fail
  refine H7.out.mono ?_
  rintro e w8 ⟨rfl, hb8⟩
  have B8 := hide (B7.out.trans (hb8.mono B7.out.size))
  replace O2 := hide (O2.out.ext hb8)
  replace O4 := hide (O4.out.ext hb8)
  clear hb8 H7 B7
  go_wp2_with fail
  refine (kn_fire 1 w8).mono ?_
  rintro e w9 ⟨d9, rfl, hr9, hb9⟩
  have B9 := hide (B8.out.trans (hb9.mono B8.out.size))
  replace O2 := hide (O2.out.ext hb9)
  replace O4 := hide (O4.out.ext hb9)
  have R9 := hide hr9
  clear hr9 hb9 B8
  have hba : Below w9.heap.size w9 (w9.alloc (.cells #[.int .i64 1, .int .i64 1] 60)) := (Below.refl _ _).alloc (Nat.le_refl _) _
  have H9 := hide (kn_jud d9 (some ⟨w9.heap.size, 0, none⟩) 1 _ (R9.out.ext hba) (blk_ds w9 [(1, 1)]))
  have Ba := hide (B9.out.trans (hba.mono B9.out.size))
  replace O2 := hide (O2.out.ext hba)
  replace O4 := hide (O4.out.ext hba)
  clear hba R9 B9
  go_wp2_with fail
  refine H9.out.mono ?_
  rintro e wb ⟨rfl, hbb⟩
  have Bb := hide (Ba.out.trans (hbb.mono Ba.out.size))
  replace O2 := hide (O2.out.ext hbb)
  replace O4 := hide (O4.out.ext hbb)
  clear hbb H9 Ba
  go_wp2_with fail
  refine (kn_fire 1 wb).mono ?_
  rintro e wc ⟨dc, rfl, hrc, hbc⟩
  have Hc := hide (kn_hop dc wc hrc (HT.out.ext (Bb.out.trans (hbc.mono Bb.out.size))))
  have Bc := hide (Bb.out.trans (hbc.mono Bb.out.size))
  replace O2 := hide (O2.out.ext hbc)
  replace O4 := hide (O4.out.ext hbc)
  clear hrc hbc Bb
  go_wp2_with fail
  refine Hc.out.mono ?_
  rintro e wd ⟨A5, c5, rfl, ho5, hbd⟩
  have O5 := hide ho5.li.2
  have Bd := hide (Bc.out.trans (hbd.mono Bc.out.size))
  replace O2 := hide (O2.out.ext hbd)
  replace O4 := hide (O4.out.ext hbd)
  clear ho5 hbd Hc Bc
  go_wp2_with fail
  refine (kn_fire 1 wd).mono ?_
  rintro e we ⟨de, rfl, hre, hbe⟩
  have hba : Below we.heap.size we (we.alloc (.cells #[.int .i64 0, .int .i64 0, .int .i64 1, .int .i64 1] 60)) := (Below.refl _ _).alloc (Nat.le_refl _) _
  have He := hide (kn_wri de (some ⟨we.heap.size, 0, none⟩) 2 _ (hre.ext hba) (blk_ds we [(0, 0), (1, 1)]))
  have Be := hide ((Bd.out.trans (hbe.mono Bd.out.size)).trans (hba.mono (Nat.le_trans Bd.out.size hbe.size)))
  replace O2 := hide ((O2.out.ext hbe).ext hba)
  replace O4 := hide ((O4.out.ext hbe).ext hba)
  replace O5 : Hid (LI (we.alloc (.cells #[.int .i64 0, .int .i64 0, .int .i64 1, .int .i64 1] 60)) _ A5 [1]) := hide (((ER.below O5.out hbe (Nat.le_refl _)).more hbe.size).below hba (Nat.le_refl _))
  clear hre hba hbe Bd
  go_wp2_with fail
  refine He.out.mono ?_
  rintro e wf ⟨rfl, hbf⟩
  have Bf := hide (Be.out.trans (hbf.mono Be.out.size))
  replace O2 := hide (O2.out.ext hbf)
  replace O4 := hide (O4.out.ext hbf)
  replace O5 := hide (ER.below (ER.more O5.out (show we.heap.size ≤ (we.alloc (.cells #[.int .i64 0, .int .i64 0, .int .i64 1, .int .i64 1] 60)).heap.size by simp)) hbf (Nat.le_refl _))
  clear hbf He Be
  obtain ⟨x2, y2, rfl, -, p2, p3⟩ := O2.out.at_ (k := 1) (by decide) rfl
  obtain ⟨x4, y4, rfl, -, p4, p5⟩ := O4.out.at_ (k := 0) (by decide) rfl
  obtain ⟨x5, y5, rfl, -, p6⟩ := VR1.at_ O5.out (k := 0) (by decide)
  replace p2 : wf.cell? ⟨x2, y2 + 2, none⟩ = some (.int .i64 1) := p2
  replace p3 : wf.cell? ⟨x2, y2 + 2 + 1, none⟩ = some (.int .i64 1) := p3
  replace p4 : wf.cell? ⟨x4, y4, none⟩ = some (.int .i64 3) := p4
  replace p5 : wf.cell? ⟨x4, y4 + 1, none⟩ = some (.int .i64 2) := p5
  replace p6 : wf.cell? ⟨x5, y5, none⟩ = some (.int .i64 1) := p6
  go_wp2_with fail
  go_ret
  exact ⟨rfl, Bf.out⟩
end Go.Proofs.YtcgdalabenflmaaDoor
/- Rite: the laws' helpers: right, good. -/
namespace Go.Proofs.YtcgdalabenflmaaDoor
open Go Go.RowKit Go.Shelf
set_option maxHeartbeats 8000000
set_option maxRecDepth 100000
theorem fol_at {r : Rit} : ∀ (l : List (Int × Int)) (m : Mom) (i : Nat), (folF r m l i).2.2 = 0 → (folF r m l i).2.1 = -1
  | [], _, _, _ => rfl
  | x :: l, m, i, h => by
    unfold folF at h ⊢
    split at h
    · cases h
    · rename_i h1
      rw [if_neg h1]
      split at h
      · rename_i h2; exact absurd h h2
      · rename_i h2
        rw [if_neg h2]
        exact fol_at l _ _ h
/-- whether a course keeps all rules -/
def rgB (r : Rit) (l : List (Int × Int)) : Bool := decide (aftC r l = 0)
theorem rg_yes {r : Rit} {l : List (Int × Int)} (h : rgB r l = true) : riB r = true ∧ (folF r m0 l 0).2.2 = 0 ∧ aftC r l = 0 :=
  have h1 : aftC r l = 0 := of_decide_eq_true h
  ⟨(aftC_ok h1).1, (aftC_ok h1).2, h1⟩
theorem right_any (d : Rad) (r : Rit) (A : Option Addr) (c : Nat) (l : List (Int × Int)) (w : World) (hd : RtR w d r) (hz : RtZ r) (hl : l.length ≤ 1000000) (hD : DsR w A l) :
    Calls Tryd.prog 28 #[.agg #[.slice d.A r.n d.c, .int .i64 r.last, .int .i64 r.toil], .slice A l.length c] w fun e w' => e = .returned (.tuple #[.bool (rgB r l), .bool (rgB r l && coB r (folF r m0 l 0).1.d)]) ∧ Below w.heap.size w w' := by
  have HB1 : Hid (Below w.heap.size w (w.alloc (.cells #[.slice d.A r.n d.c, .int .i64 r.last, .int .i64 r.toil] 24))) := hide ((Below.refl _ _).alloc (Nat.le_refl _) _)
  have G1 := hide (Blk.new w 24 #[.slice d.A r.n d.c, .int .i64 r.last, .int .i64 r.toil])
  have HCP := hide (fun W (h : RtR W d r) => copied_any d r W h hz)
  have HDE : Hid (∀ W, DsR W A l → _) := hide (fun W (h : DsR W A l) => deeds_any A c l W h hl)
  have HJU := hide (fun d' A' c' W (h : RtR W d' r) (h2 : DsR W A' l) => judge_any d' r A' c' l W h hz hl h2)
  have HCO := hide (fun d' A' c' W (h : RtR W d' r) (h2 : DsR W A' l) => complete_rite d' r A' c' l W h hz hl h2)
  have HR := hide (hd.ext HB1.out)
  have HD := hide (hD.ext HB1.out)
  unfold CpPost at HCP
  obtain ⟨n, hn⟩ : ∃ n, l.length = n := ⟨_, rfl⟩
  rw [hn] at HDE HJU HCO ⊢
  obtain ⟨g, hg⟩ : ∃ x, rgB r l = x := ⟨_, rfl⟩
  have HG := hide hg
  rw [hg]
  clear hd hz hD hl hn hg
  go_enter Tryd.func28, Tryd.ntmps28
  go_upto_region 1 with fail
  generalize w.alloc (.cells #[.slice d.A r.n d.c, .int .i64 r.last, .int .i64 r.toil] 24) = w1 at HB1 G1 HR HD ⊢
  obtain ⟨G, hG⟩ : ∃ x, w.heap.size = x := ⟨_, rfl⟩
  rw [hG] at G1 ⊢
  clear hG
  obtain ⟨g9, g0, g1, g2, -⟩ := blk3 G1.out
  go_wp2_with fail
  refine (HCP.out w1 HR.out).mono ?_
  rintro e w2 ⟨d2, rfl, hr2, hb2⟩
  have R2 := hide hr2
  have D2 := hide (HD.out.ext hb2)
  replace HR := hide (HR.out.ext hb2)
  replace G1 := hide (G1.out.ext hb2)
  replace HB1 := hide (HB1.out.trans (hb2.mono HB1.out.size))
  clear g9 g0 g1 g2 hr2 hb2 HD
  go_wp2_with fail
  refine (HDE.out w2 D2.out).mono ?_
  rintro e w3 ⟨A3, c3, rfl, ho3, hb3⟩
  have D3 : Hid (DsR w3 A3 l) := hide ho3.dsr.2
  replace R2 := hide (R2.out.ext hb3)
  replace D2 := hide (D2.out.ext hb3)
  replace HR := hide (HR.out.ext hb3)
  replace G1 := hide (G1.out.ext hb3)
  replace HB1 := hide (HB1.out.trans (hb3.mono HB1.out.size))
  clear ho3 hb3
  go_wp2_with fail
  refine (HJU.out d2 A3 c3 w3 R2.out D3.out).mono ?_
  rintro e w4 ⟨rfl, hb4⟩
  replace D2 := hide (D2.out.ext hb4)
  replace HR := hide (HR.out.ext hb4)
  replace G1 := hide (G1.out.ext hb4)
  replace HB1 := hide (HB1.out.trans (hb4.mono HB1.out.size))
  clear hb4 R2 D3 HJU
  cases g with
  | false =>
    have hno : (if riB r = true then (0 : Int) else 2) = 0 → (if riB r = true then (folF r m0 l 0).2.2 else 0) ≠ 0 := fun h1 h2 => by
      have h3 : rgB r l = true := by
        unfold rgB aftC
        by_cases hr : riB r = true
        · rw [if_pos hr] at h2 ⊢
          rw [if_pos h2]; rfl
        · rw [if_neg hr] at h1; cases h1
      rw [HG.out] at h3
      cases h3
    generalize (if riB r = true then (folF r m0 l 0).2.1 else 0) = at_
    revert hno
    generalize (if riB r = true then (folF r m0 l 0).2.2 else 0) = ru
    generalize (if riB r = true then (0 : Int) else 2) = er
    intro hno
    by_cases h1 : er = 0
    · have h2 := hno h1
      have e1 : (er != 0) = false := by rw [h1]; rfl
      have e2 : (ru != 0) = true := by rw [bne_iff_ne]; exact h2
      clear hno h1 h2
      rcases hat : (at_ != -1) with _ | _
      · go_wp2_with fail
        go_ret2
        exact ⟨rfl, HB1.out⟩
      · go_wp2_with fail
        go_ret2
        exact ⟨rfl, HB1.out⟩
    · have e1 : (er != 0) = true := by rw [bne_iff_ne]; exact h1
      clear hno h1
      go_wp2_with fail
      go_ret2
      exact ⟨rfl, HB1.out⟩
  | true =>
    obtain ⟨h1, h2, h3⟩ := rg_yes HG.out
    have h4 := fol_at l m0 0 h2
    rw [if_pos h1, if_pos h1, if_pos h1, h2, h4]
    have HA0 := hide h3
    clear h1 h2 h3 h4
    obtain ⟨g9, g0, g1, g2, -⟩ := blk3 G1.out
    go_wp2_with fail
    refine (HCP.out w4 HR.out).mono ?_
    rintro e w5 ⟨d5, rfl, hr5, hb5⟩
    have R5 := hide hr5
    replace D2 := hide (D2.out.ext hb5)
    replace HB1 := hide (HB1.out.trans (hb5.mono HB1.out.size))
    clear g9 g0 g1 g2 hr5 hb5
    go_wp2_with fail
    refine (HDE.out w5 D2.out).mono ?_
    rintro e w6 ⟨A6, c6, rfl, ho6, hb6⟩
    have D6 : Hid (DsR w6 A6 l) := hide ho6.dsr.2
    replace R5 := hide (R5.out.ext hb6)
    replace HB1 := hide (HB1.out.trans (hb6.mono HB1.out.size))
    clear ho6 hb6
    go_wp2_with fail
    refine (HCO.out d5 A6 c6 w6 R5.out D6.out).mono ?_
    rintro e w7 ⟨⟨h7, -⟩ | ⟨-, -, rfl⟩, hb7⟩
    · exact absurd HA0.out h7
    replace HB1 := hide (HB1.out.trans (hb7.mono HB1.out.size))
    clear hb7
    go_wp2_with fail
    go_ret2
    exact ⟨rfl, HB1.out⟩
theorem lo_z {r : Rit} {l : List (Int × Int)} (h : loF r l = false) : RtZ r ∧ l.length ≤ 20 := by
  unfold loF at h
  rw [Bool.or_eq_false_iff, Bool.or_eq_false_iff] at h
  obtain ⟨h1, h2, h3⟩ := h
  have hn : r.n ≤ 12 := by simpa using h2
  have hk : ∀ k, k < r.n → (r.ac k).nm.size ≤ 20 ∧ (r.ac k).nd.length ≤ 12 ∧ (r.ac k).ins.length ≤ 12 := fun k hk => by
    have h4 := List.any_eq_false.1 h1 k (List.mem_range.2 (by omega))
    unfold loA at h4
    simp at h4
    omega
  exact ⟨⟨by omega, fun k h => by have := hk k h; omega, fun k h => by have := hk k h; omega, fun k h => by have := hk k h; omega⟩, by simpa using h3⟩
/-- whether a rite is looked at -/
def gdB (r : Rit) (l : List (Int × Int)) : Bool := !loF r l && riB r
theorem gd_yes {r : Rit} {l : List (Int × Int)} (h : gdB r l = true) : RiOk r ∧ RtZ r ∧ l.length ≤ 20 ∧ riB r = true := by
  unfold gdB at h
  rw [Bool.and_eq_true] at h
  have h1 : loF r l = false := by simpa using h.1
  exact ⟨riB_ok h.2, (lo_z h1).1, (lo_z h1).2, h.2⟩
theorem good_any (d : Rad) (r : Rit) (A : Option Addr) (c : Nat) (l : List (Int × Int)) (w : World) (hd : RtR w d r) :
    Calls Tryd.prog 27 #[.agg #[.slice d.A r.n d.c, .int .i64 r.last, .int .i64 r.toil], .slice A l.length c] w fun e w' => e = .returned (.bool (gdB r l)) ∧ Below w.heap.size w w' := by
  have HB1 : Hid (Below w.heap.size w (w.alloc (.cells #[.slice d.A r.n d.c, .int .i64 r.last, .int .i64 r.toil] 24))) := hide ((Below.refl _ _).alloc (Nat.le_refl _) _)
  have G1 := hide (Blk.new w 24 #[.slice d.A r.n d.c, .int .i64 r.last, .int .i64 r.toil])
  have HR := hide (hd.ext HB1.out)
  have HLO := hide (long_any d r A c l _ HR.out)
  have HCP := hide (fun W (h : RtR W d r) (hz : RtZ r) => copied_any d r W h hz)
  have HCK := hide (fun d' W (h : RtR W d' r) (hz : RtZ r) => check_any d' r W h hz)
  unfold CpPost at HCP
  obtain ⟨gd, hgd⟩ : ∃ x, gdB r l = x := ⟨_, rfl⟩
  have HGD := hide hgd
  have hgd2 : gd = (!loF r l && riB r) := by rw [← hgd]; rfl
  rw [hgd]
  have HLZ : Hid (loF r l = false → RtZ r) := hide fun h => (lo_z h).1
  obtain ⟨lo, hlo⟩ : ∃ x, loF r l = x := ⟨_, rfl⟩
  rw [hlo] at HLO hgd2 HLZ
  obtain ⟨rb, hrb⟩ : ∃ x, riB r = x := ⟨_, rfl⟩
  have HRB := hide hrb
  rw [hrb] at HCK hgd2
  obtain ⟨n, hn⟩ : ∃ x, r.n = x := ⟨_, rfl⟩
  have HN := hide hn
  obtain ⟨m, hm⟩ : ∃ x, l.length = x := ⟨_, rfl⟩
  rw [hm] at HLO ⊢
  rw [hn] at HLO HCP HCK G1 ⊢
  clear hd hgd hlo hrb hm
  go_enter Tryd.func27, Tryd.ntmps27
  go_upto_region 1 with fail
  (try rw [hn])
  (try rw [hn] at HB1)
  (try rw [hn] at HR)
  (try rw [hn] at HLO)
  clear hn
  generalize w.alloc (.cells #[.slice d.A n d.c, .int .i64 r.last, .int .i64 r.toil] 24) = w1 at HB1 G1 HR HLO ⊢
  obtain ⟨G, hG⟩ : ∃ x, w.heap.size = x := ⟨_, rfl⟩
  rw [hG] at G1 ⊢
  clear hG
  obtain ⟨g9, g0, g1, g2, -⟩ := blk3 G1.out
  go_wp2_with fail
  refine HLO.out.mono ?_
  rintro e w2 ⟨rfl, hb2⟩
  replace HR := hide (HR.out.ext hb2)
  replace G1 := hide (G1.out.ext hb2)
  replace HB1 := hide (HB1.out.trans (hb2.mono HB1.out.size))
  clear g9 g0 g1 g2 hb2 HLO
  cases lo with
  | true =>
    obtain rfl : gd = false := by rw [hgd2]; rfl
    clear hgd2
    go_wp2_with fail
    go_ret
    exact ⟨rfl, HB1.out⟩
  | false =>
  have HZ := hide (HLZ.out rfl)
  obtain ⟨g9, g0, g1, g2, -⟩ := blk3 G1.out
  go_wp2_with fail
  refine (HCP.out w2 HR.out HZ.out).mono ?_
  rintro e w3 ⟨d3, rfl, hr3, hb3⟩
  have R3 := hide hr3
  replace HR := hide (HR.out.ext hb3)
  replace G1 := hide (G1.out.ext hb3)
  replace HB1 := hide (HB1.out.trans (hb3.mono HB1.out.size))
  clear g9 g0 g1 g2 hr3 hb3 HLZ
  go_wp2_with fail
  refine (HCK.out d3 w3 R3.out HZ.out).mono ?_
  rintro e w4 ⟨rfl, hb4⟩
  replace HR := hide (HR.out.ext hb4)
  replace G1 := hide (G1.out.ext hb4)
  replace HB1 := hide (HB1.out.trans (hb4.mono HB1.out.size))
  clear hb4 R3 HCK HCP
  cases rb with
  | false =>
    obtain rfl : gd = false := by rw [hgd2]; rfl
    rw [if_neg (by decide)]
    clear hgd2
    go_wp2_with fail
    go_ret
    exact ⟨rfl, HB1.out⟩
  | true =>
  obtain rfl : gd = true := by rw [hgd2]; rfl
  rw [if_pos rfl]
  clear hgd2
  have HRO := hide (riB_ok HRB.out)
  have hn10 := HRO.out.n10
  rw [HN.out] at hn10
  go_wp2_with fail
  go_loopw [5] (fun i wr => ∃ k : Nat, k ≤ n ∧ i = .int .i64 k ∧ Hid (Below w4.heap.size w4 wr)) (fun i _ => n - (intOf i).toNat)
  case atStart => exact ⟨0, Nat.zero_le _, rfl, hide (Below.refl _ _)⟩
  case round =>
    obtain ⟨k, hk, rfl, HB⟩ := hrel
    have hst : IntKind.i64.wrap ((k : Int) + 1) = ((k + 1 : Nat) : Int) := by rw [IntWalk.i64_in _ (by omega)]; omega
    have G5 := hide (G1.out.ext HB.out)
    obtain ⟨g9, g0, g1, g2, -⟩ := blk3 G5.out
    by_cases hlt : k < n
    · have hlt' : (k : Int) < (n : Int) := by omega
      have hkr : k < r.n := by rw [HN.out]; exact hlt
      obtain ⟨a, ha⟩ : ∃ x, r.ac k = x := ⟨_, rfl⟩
      have hac := HRO.out.at_ hkr
      have hrd := (HR.out.ext HB.out).nd k hkr
      obtain ⟨ab, ao, hra, hb, c0, c1, c2, c3, c4, c5, c6⟩ := (HR.out.ext HB.out).at_ hkr ha
      rw [hra] at g0 ⊢
      have hndx := hac.nd
      have hndl := HZ.out.nd k hkr
      rw [ha] at hndx hndl hrd
      have HG0 : Hid (∀ W, Below w4.heap.size w4 W → W.cell? ⟨G, 0, none⟩ = some (.slice (some ⟨ab, ao, none⟩) n d.c)) := hide fun W h => by have h2 := (blk3 (G1.out.ext h)).2.1; rw [hra] at h2; exact h2
      obtain ⟨nm, nd, ins, at_, fr, to_, ex⟩ := a
      dsimp only at c0 c1 c2 c3 c4 c5 c6 hndx hndl hrd
      have HNX : Hid (∀ x ∈ nd, 0 ≤ x ∧ x < n) := hide fun x hx => by have h := hndx x hx; have h2 := HN.out; omega
      have HRD := hide hrd
      obtain ⟨na, hna⟩ : ∃ x, d.na k = x := ⟨_, rfl⟩
      obtain ⟨nc, hnc⟩ : ∃ x, d.nc k = x := ⟨_, rfl⟩
      obtain ⟨nn, hnn⟩ : ∃ x, nd.length = x := ⟨_, rfl⟩
      have HNN := hide hnn
      rw [hna] at HRD
      rw [hna, hnc, hnn] at c1
      rw [hnn] at hndl
      clear hkr ha hac hrd hra hb hndx hna hnc hnn
      have hbE : Below wr.heap.size wr (wr.alloc (.cells #[.string nm, .slice na nn nc, .slice (d.ia k) ins.length (d.ic k), .int .i64 at_, .int .i64 fr, .int .i64 to_, .bool ex] 58)) := (Below.refl _ _).alloc (Nat.le_refl _) _
      have KE := hide (Blk.new wr 58 #[.string nm, .slice na nn nc, .slice (d.ia k) ins.length (d.ic k), .int .i64 at_, .int .i64 fr, .int .i64 to_, .bool ex])
      have HBE := hide (HB.out.trans (hbE.mono HB.out.size))
      have HRE : Hid (LI (wr.alloc (.cells #[.string nm, .slice na nn nc, .slice (d.ia k) ins.length (d.ic k), .int .i64 at_, .int .i64 fr, .int .i64 to_, .bool ex] 58)) _ na nd) := hide ((ER.below HRD.out hbE (Nat.le_refl _)).more hbE.size)
      clear hbE
      go_wp2_with fail
      generalize wr.alloc (.cells #[.string nm, .slice na nn nc, .slice (d.ia k) ins.length (d.ic k), .int .i64 at_, .int .i64 fr, .int .i64 to_, .bool ex] 58) = we at KE HBE HRE ⊢
      obtain ⟨E, hE⟩ : ∃ x, wr.heap.size = x := ⟨_, rfl⟩
      rw [hE] at KE ⊢
      clear hE c0 c1 c2 c3 c4 c5 c6 g9 g0 g1 g2 HB G5 HRD
      go_loopw [7] (fun i wf => ∃ t : Nat, t ≤ nn ∧ i = .int .i64 t ∧ Hid (Below we.heap.size we wf)) (fun i _ => nn - (intOf i).toNat)
      case atStart => exact ⟨0, Nat.zero_le _, rfl, hide (Below.refl _ _)⟩
      case round =>
        obtain ⟨t, ht, rfl, HBF⟩ := hrel
        have hst2 : IntKind.i64.wrap ((t : Int) + 1) = ((t + 1 : Nat) : Int) := by rw [IntWalk.i64_in _ (by omega)]; omega
        have y1 : wr.cell? ⟨E, 1, none⟩ = some (.slice na nn nc) := (KE.out.ext HBF.out).cell 1
        by_cases htl : t < nn
        · have htl' : (t : Int) < (nn : Int) := by omega
          have htn : t < nd.length := by rw [HNN.out]; exact htl
          obtain ⟨xb, xo, hxa, hxl, hxc⟩ := VR1.at_ HRE.out htn
          have hx := HNX.out (nd.getD t 0) (by rw [List.getD_eq_getElem?_getD, List.getElem?_eq_getElem htn]; exact List.getElem_mem htn)
          obtain ⟨x, hxx⟩ : ∃ z, nd.getD t 0 = z := ⟨_, rfl⟩
          rw [hxx] at hxc hx
          have hx0 : ¬ x < 0 := by omega
          have hx1 : ¬ x ≥ (n : Int) := by omega
          have HS : Hid (∀ W, Below we.heap.size we W → (W.cell? ⟨E, 1, none⟩ = some (.slice (some ⟨xb, xo, none⟩) nn nc) ∧ W.cell? ⟨G, 0, none⟩ = some (.slice (some ⟨ab, ao, none⟩) n d.c) ∧ W.cell? ⟨xb, xo + t, none⟩ = some (.int .i64 x))) := hide fun W h => ⟨by rw [← hxa]; exact (KE.out.ext h).cell 1, HG0.out W (HBE.out.trans (h.mono HBE.out.size)), (h.cell (p := ⟨xb, xo + t, none⟩) hxl).trans hxc⟩
          rw [hxa] at y1
          clear htn hxl hxc hx hxx hxa
          go_upto_region 10 with fail
          have HBG := hide (HBF.out.trans ((Below.refl wr.heap.size wr).drew.mono HBF.out.size))
          refine wp_region_J (fun W : World => (W.cell? ⟨E, 1, none⟩ = some (.slice (some ⟨xb, xo, none⟩) nn nc) ∧ W.cell? ⟨G, 0, none⟩ = some (.slice (some ⟨ab, ao, none⟩) n d.c) ∧ W.cell? ⟨xb, xo + t, none⟩ = some (.int .i64 x))) (by kernel_rfl) ?_
          generalize wr.drew = wd at HBG ⊢
          refine tk_start [0, 1, 2, 3, 4, 5, 6, 7, 8, 9, 10, 11, 12, 13, 14, 15, 16] ?_
          iterate 17
            refine tk_one (v := ?_) (by first | exact hF | exact wideFn) (HS.out _ HBG.out) rfl (by kernel_rfl) (by kernel_rfl) (by kernel_rfl) (by kernel_rfl) rfl ?_ (by first | exact fun _ _ _ h => h | exact fun _ _ _ h => hQ2 _ _ _ _ _ h) ?_
            rotate_left
            · intro W hSW
              simp only [List.getElem_toArray, List.getElem_cons_zero, List.getElem_cons_succ]
              (try dsimp only at hSW)
              go_simp
              with_reducible rfl
            (try simp only [List.getElem_toArray, List.getElem_cons_zero, List.getElem_cons_succ, Act.put, List.setIfInBounds_toArray, List.set_cons_zero, List.set_cons_succ])
          refine tk_end ?_
          refine wpAnyJ_done (by kernel_rfl) ?_
          go_wp2_with fail
          go_roundw
          case rel => exact ⟨t + 1, by omega, by go_num, HBG⟩
          case measure => simp [intOf]; omega
        · obtain rfl : nn = t := by omega
          have hnl : ¬ (nn : Int) < (nn : Int) := by omega
          go_wp2_with fail
          go_roundw
          case rel => exact ⟨k + 1, by omega, by go_num, hide (HBE.out.trans (HBF.out.mono HBE.out.size))⟩
          case measure => simp [intOf]; omega
    · obtain rfl : n = k := by omega
      have hnl : ¬ (n : Int) < (n : Int) := by omega
      go_wp2_with fail
      go_ret
      exact ⟨rfl, HB1.out.trans (HB.out.mono HB1.out.size)⟩
end Go.Proofs.YtcgdalabenflmaaDoor
/- Rite: what a law's walk keeps. -/
namespace Go.Proofs.YtcgdalabenflmaaDoor
open Go Go.RowKit Go.Shelf
set_option maxHeartbeats 8000000
set_option maxRecDepth 100000
/-- what a law's walk keeps -/
structure LwS (w W : World) (G : Nat) (d : Rad) (r : Rit) (A : Option Addr) (l : List (Int × Int)) : Prop where
  lo : Below w.heap.size w W
  kG : Blk W G 24 #[.slice d.A r.n d.c, .int .i64 r.last, .int .i64 r.toil]
  rt : RtR W d r
  ds : DsR W A l
theorem LwS.ext {w W W' : World} {G : Nat} {d : Rad} {r : Rit} {A : Option Addr} {l : List (Int × Int)} (h : LwS w W G d r A l) (hb : Below W.heap.size W W') : LwS w W' G d r A l :=
  ⟨h.lo.trans (hb.mono h.lo.size), h.kG.ext hb, h.rt.ext hb, h.ds.ext hb⟩
theorem liE {W W' : World} {A : Option Addr} {l : List Int} (h : LI W W.heap.size A l) (hb : Below W.heap.size W W') : LI W' W'.heap.size A l := (ER.below h hb (Nat.le_refl _)).more hb.size
theorem frC_three {r : Rit} {l : List (Int × Int)} {day : Int} (h : aftC r l = 0) (h2 : frC r l day ≠ 0) : frC r l day = 3 := by
  unfold frC at h2 ⊢
  rw [if_pos h] at h2 ⊢
  split at h2
  · exact absurd rfl h2
  · rename_i h3; rw [if_neg h3]
theorem frC_in {r : Rit} {l : List (Int × Int)} {day : Int} (h : frC r l day = 0) : (folF r m0 l 0).1.day ≤ day ∧ day ≤ r.last := by
  unfold frC at h
  split at h
  · split at h
    · rename_i h3; exact h3
    · cases h
  · rename_i h2; exact absurd h h2
end Go.Proofs.YtcgdalabenflmaaDoor
/- Rite, the reference: others. -/
namespace Go.Proofs.YtcgdalabenflmaaDoor
open List renaming getElem_toArray → glA, getElem_cons_zero → glB, getElem_cons_succ → glC, setIfInBounds_toArray → glD, set_cons_zero → glE, set_cons_succ → glF
open Go Go.RowKit Go.Shelf
set_option maxHeartbeats 8000000
set_option maxRecDepth 100000
theorem VR1.allR {w : World} {B n : Nat} {A : Option Addr} {u : Nat → Value} (h : ER w B 1 A n fun k _ => u k) (hn : 0 < n) :
    ∃ b off, A = some ⟨b, off, none⟩ ∧ b < B ∧ ∀ k, k < n → w.cell? ⟨b, off + k, none⟩ = some (u k) := by
  obtain ⟨b, off, rfl, hb, -⟩ := VR1.at_ h hn
  refine ⟨b, off, rfl, hb, fun k hk => ?_⟩
  obtain ⟨b2, off2, e, -, hc⟩ := VR1.at_ h hk
  injection e with e
  injection e with e1 e2
  subst e1 e2
  exact hc
/-- what stands before -/
def pvF (l : List Int) (j : Nat) : Int := if j = 0 then -1 else l.getD (j - 1) 0
theorem rlf_step {act n : Int} {l : List Int} {j : Nat} (hj : j < l.length) (h : ¬ (l.getD j 0 ≤ pvF l j ∨ n ≤ l.getD j 0 ∨ l.getD j 0 = act)) : isLF act n (pvF l j) (l.drop j) = isLF act n (pvF l (j + 1)) (l.drop (j + 1)) := by
  rw [List.drop_eq_getElem_cons hj]
  have e : l[j] = l.getD j 0 := by rw [List.getD_eq_getElem?_getD, List.getElem?_eq_getElem hj]; rfl
  rw [e]
  have e2 : pvF l (j + 1) = l.getD j 0 := by unfold pvF; rw [if_neg (by omega), Nat.add_sub_cancel]
  rw [e2]
  show (if _ then _ else _) = _
  rw [if_neg h]
theorem rlf_no {act n : Int} {l : List Int} {j : Nat} (hj : j < l.length) (h : l.getD j 0 ≤ pvF l j ∨ n ≤ l.getD j 0 ∨ l.getD j 0 = act) : isLF act n (pvF l j) (l.drop j) = false := by
  rw [List.drop_eq_getElem_cons hj]
  have e : l[j] = l.getD j 0 := by rw [List.getD_eq_getElem?_getD, List.getElem?_eq_getElem hj]; rfl
  rw [e]
  show (if _ then _ else _) = _
  rw [if_pos h]
theorem others_any (d : Rad) (r : Rit) (A : Option Addr) (c : Nat) (l : List Int) (act : Nat) (w : World) (hd : RtR w d r) (hn : r.n ≤ 1000) (hl : l.length ≤ 1000) (hA : LI w w.heap.size A l) :
    Calls Tryd.prog 44 #[.agg #[.slice d.A r.n d.c, .int .i64 r.last, .int .i64 r.toil], .slice A l.length c, .int .i64 act] w fun e w' => e = .returned (.bool (isLF act r.n (-1) l)) ∧ Below w.heap.size w w' := by
  have HB1 : Hid (Below w.heap.size w (w.alloc (.cells #[.slice d.A r.n d.c, .int .i64 r.last, .int .i64 r.toil] 24))) := hide ((Below.refl _ _).alloc (Nat.le_refl _) _)
  have G1 := hide (Blk.new w 24 #[.slice d.A r.n d.c, .int .i64 r.last, .int .i64 r.toil])
  have HL := hide (liE hA HB1.out)
  obtain ⟨R, hR⟩ : ∃ R, isLF act r.n (-1) l = R := ⟨_, rfl⟩
  have HR := hide hR
  obtain ⟨n, hn2⟩ : ∃ x, r.n = x := ⟨_, rfl⟩
  obtain ⟨la, hla⟩ : ∃ x, r.last = x := ⟨_, rfl⟩
  obtain ⟨tl, htl⟩ : ∃ x, r.toil = x := ⟨_, rfl⟩
  obtain ⟨ll, hll⟩ : ∃ x, l.length = x := ⟨_, rfl⟩
  have HLL := hide hll
  rw [hR]
  rw [hn2] at hn HR
  rw [hll] at hl ⊢
  rw [hn2, hla, htl] at HB1 G1 HL ⊢
  clear hd hR hn2 hla htl hll hA
  go_enter Tryd.func44, Tryd.ntmps44
  go_upto_region 1 with fail
  generalize w.alloc (.cells #[.slice d.A n d.c, .int .i64 la, .int .i64 tl] 24) = w1 at HB1 G1 HL ⊢
  obtain ⟨G, hG⟩ : ∃ x, w.heap.size = x := ⟨_, rfl⟩
  rw [hG] at G1 ⊢
  clear hG
  go_wp2_with fail
  go_loopw [7] (fun i wr => ∃ j : Nat, j ≤ ll ∧ i = .int .i64 j ∧ Hid (isLF act n (pvF l j) (l.drop j) = R ∧ (0 < j → 0 ≤ pvF l j)) ∧ Hid (Below w1.heap.size w1 wr)) (fun i _ => ll - (intOf i).toNat)
  case atStart => exact ⟨0, Nat.zero_le _, rfl, hide ⟨HR.out, fun h => absurd h (by omega)⟩, hide (Below.refl _ _)⟩
  case round =>
    obtain ⟨j, hj, rfl, HX, HB⟩ := hrel
    have hst : IntKind.i64.wrap ((j : Int) + 1) = ((j + 1 : Nat) : Int) := by rw [IntWalk.i64_in _ (by omega)]; omega
    by_cases hlt : j < ll
    · have hlt' : (j : Int) < (ll : Int) := by omega
      have hjl : j < l.length := by rw [HLL.out]; exact hlt
      obtain ⟨xb, xo, hxa, hxl, hxc⟩ := VR1.allR HL.out (show 0 < l.length by omega)
      subst hxa
      obtain ⟨x, hx⟩ : ∃ x, l.getD j 0 = x := ⟨_, rfl⟩
      obtain ⟨y, hy⟩ : ∃ x, l.getD (j - 1) 0 = x := ⟨_, rfl⟩
      have HS4 : Hid (∀ W, Below w1.heap.size w1 W → ((W.cell? ⟨xb, xo + j, none⟩ = some (.int .i64 x) ∧ (0 < j → W.cell? ⟨xb, xo + (j - 1), none⟩ = some (.int .i64 y))) ∧ W.cell? ⟨G, 0, none⟩ = some (.slice d.A n d.c))) := hide fun W h => by
        obtain ⟨-, g0, -⟩ := blk3 (G1.out.ext h)
        refine ⟨⟨(h.cell (p := ⟨xb, xo + j, none⟩) hxl).trans ((hxc j hjl).trans (by rw [← hx])), fun h0 => (h.cell (p := ⟨xb, xo + (j - 1), none⟩) hxl).trans ((hxc (j - 1) (by omega)).trans (by rw [← hy]))⟩, g0⟩
      have HPV : Hid ((j = 0 → pvF l j = -1) ∧ (0 < j → pvF l j = y)) := hide ⟨fun h => by unfold pvF; rw [if_pos h], fun h => by unfold pvF; rw [if_neg (by omega), hy]⟩
      have HNO : Hid (x ≤ pvF l j ∨ n ≤ x ∨ x = act → R = false) := hide fun h => by
        rw [← HX.out.1]
        exact rlf_no hjl (by rw [hx]; exact h)
      have HYES : Hid (¬ (x ≤ pvF l j ∨ (n : Int) ≤ x ∨ x = act) → isLF act n (pvF l (j + 1)) (l.drop (j + 1)) = R ∧ (0 < j + 1 → 0 ≤ pvF l (j + 1))) := hide fun h => by
        refine ⟨by rw [← HX.out.1]; exact (rlf_step hjl (by rw [hx]; exact h)).symm, fun _ => ?_⟩
        unfold pvF
        rw [if_neg (by omega), Nat.add_sub_cancel, hx]
        by_cases h0 : j = 0
        · have := HPV.out.1 h0; omega
        · have := HX.out.2 (by omega); omega
      clear hxl hxc hx hy hjl
      have hy0 : 0 < j → 0 ≤ y := fun h => by have := HX.out.2 h; rw [HPV.out.2 h] at this; exact this
      go_upto_region 4 with fail
      have hd1 := (Below.refl wr.heap.size wr).drew
      replace HB := hide (HB.out.trans (hd1.mono HB.out.size))
      clear hd1
      by_cases c1 : x < 0
      · have HE : Hid (R = false) := hide (HNO.out (.inl (by
          by_cases h0 : j = 0
          · have := HPV.out.1 h0; omega
          · have := HPV.out.2 (by omega); have := hy0 (by omega); omega)))
        clear hy0
        refine wp_region_J (fun W : World => ((W.cell? ⟨xb, xo + j, none⟩ = some (.int .i64 x) ∧ (0 < j → W.cell? ⟨xb, xo + (j - 1), none⟩ = some (.int .i64 y))) ∧ W.cell? ⟨G, 0, none⟩ = some (.slice d.A n d.c))) (by kernel_rfl) ?_
        generalize wr.drew = wd at HB ⊢
        refine tk_start [0, 1, 2, 3, 4, 5] ?_
        iterate 6
          refine tk_one (v := ?_) (by first | exact hF | exact wideFn) (HS4.out _ HB.out) rfl (by kernel_rfl) (by kernel_rfl) (by kernel_rfl) (by kernel_rfl) rfl ?_ (by first | exact fun _ _ _ h => h | exact fun _ _ _ h => hQ2 _ _ _ _ _ h) ?_
          rotate_left
          · intro W hSW
            simp only [glA, glB, glC]
            (try dsimp only at hSW)
            go_simp
            with_reducible rfl
          (try simp only [glA, glB, glC, Act.put, glD, glE, glF])
        refine tk_end ?_
        refine tk_start [6, 7, 8, 9, 10, 11, 12, 13] ?_
        iterate 8
          refine tk_skip (by first | exact hF | exact wideFn) (HS4.out _ HB.out) rfl (by kernel_rfl) (by kernel_rfl) (by kernel_rfl) (by kernel_rfl) rfl (by first | exact fun _ _ _ h => h | exact fun _ _ _ h => hQ2 _ _ _ _ _ h) ?_
          (try simp only [glA, glB, glC, Act.put, glD, glE, glF])
        refine tk_end ?_
        refine wpAnyJ_take 14 (v := ?_) (by first | exact hF | exact wideFn) (HS4.out _ HB.out) rfl (by kernel_rfl) (by kernel_rfl) (by kernel_rfl) (by kernel_rfl) rfl ?_ (by first | exact fun _ _ _ h => h | exact fun _ _ _ h => hQ2 _ _ _ _ _ h) ?_
        rotate_left
        · intro W hSW
          simp only [glA, glB, glC]
          (try dsimp only at hSW)
          go_simp
          with_reducible rfl
        (try simp only [glA, glB, glC, Act.put, glD, glE, glF])
        refine wpAnyJ_take 15 (v := ?_) (by first | exact hF | exact wideFn) (HS4.out _ HB.out) rfl (by kernel_rfl) (by kernel_rfl) (by kernel_rfl) (by kernel_rfl) rfl ?_ (by first | exact fun _ _ _ h => h | exact fun _ _ _ h => hQ2 _ _ _ _ _ h) ?_
        rotate_left
        · intro W hSW
          simp only [glA, glB, glC]
          (try dsimp only at hSW)
          go_simp
          with_reducible rfl
        (try simp only [glA, glB, glC, Act.put, glD, glE, glF])
        refine tk_start [16, 17, 18, 19, 20, 21] ?_
        iterate 6
          refine tk_skip (by first | exact hF | exact wideFn) (HS4.out _ HB.out) rfl (by kernel_rfl) (by kernel_rfl) (by kernel_rfl) (by kernel_rfl) rfl (by first | exact fun _ _ _ h => h | exact fun _ _ _ h => hQ2 _ _ _ _ _ h) ?_
          (try simp only [glA, glB, glC, Act.put, glD, glE, glF])
        refine tk_end ?_
        refine wpAnyJ_take 22 (v := ?_) (by first | exact hF | exact wideFn) (HS4.out _ HB.out) rfl (by kernel_rfl) (by kernel_rfl) (by kernel_rfl) (by kernel_rfl) rfl ?_ (by first | exact fun _ _ _ h => h | exact fun _ _ _ h => hQ2 _ _ _ _ _ h) ?_
        rotate_left
        · intro W hSW
          simp only [glA, glB, glC]
          (try dsimp only at hSW)
          go_simp
          with_reducible rfl
        (try simp only [glA, glB, glC, Act.put, glD, glE, glF])
        refine wpAnyJ_take 23 (v := ?_) (by first | exact hF | exact wideFn) (HS4.out _ HB.out) rfl (by kernel_rfl) (by kernel_rfl) (by kernel_rfl) (by kernel_rfl) rfl ?_ (by first | exact fun _ _ _ h => h | exact fun _ _ _ h => hQ2 _ _ _ _ _ h) ?_
        rotate_left
        · intro W hSW
          simp only [glA, glB, glC]
          (try dsimp only at hSW)
          go_simp
          with_reducible rfl
        (try simp only [glA, glB, glC, Act.put, glD, glE, glF])
        refine tk_start [24, 25, 26, 27, 28, 29, 30, 31, 32, 33, 34, 35, 36, 37] ?_
        iterate 14
          refine tk_skip (by first | exact hF | exact wideFn) (HS4.out _ HB.out) rfl (by kernel_rfl) (by kernel_rfl) (by kernel_rfl) (by kernel_rfl) rfl (by first | exact fun _ _ _ h => h | exact fun _ _ _ h => hQ2 _ _ _ _ _ h) ?_
          (try simp only [glA, glB, glC, Act.put, glD, glE, glF])
        refine tk_end ?_
        refine wpAnyJ_take 38 (v := ?_) (by first | exact hF | exact wideFn) (HS4.out _ HB.out) rfl (by kernel_rfl) (by kernel_rfl) (by kernel_rfl) (by kernel_rfl) rfl ?_ (by first | exact fun _ _ _ h => h | exact fun _ _ _ h => hQ2 _ _ _ _ _ h) ?_
        rotate_left
        · intro W hSW
          simp only [glA, glB, glC]
          (try dsimp only at hSW)
          go_simp
          with_reducible rfl
        (try simp only [glA, glB, glC, Act.put, glD, glE, glF])
        refine wpAnyJ_done (by kernel_rfl) ?_
        go_wp2_with fail
        go_ret
        exact ⟨by rw [HE.out]; rfl, HB1.out.trans (HB.out.mono HB1.out.size)⟩
      by_cases c2 : x ≥ (n : Int)
      · have HE : Hid (R = false) := hide (HNO.out (.inr (.inl (by omega))))
        clear hy0
        refine wp_region_J (fun W : World => ((W.cell? ⟨xb, xo + j, none⟩ = some (.int .i64 x) ∧ (0 < j → W.cell? ⟨xb, xo + (j - 1), none⟩ = some (.int .i64 y))) ∧ W.cell? ⟨G, 0, none⟩ = some (.slice d.A n d.c))) (by kernel_rfl) ?_
        generalize wr.drew = wd at HB ⊢
        refine tk_start [0, 1, 2, 3, 4, 5, 6, 7, 8, 9, 10, 11, 12, 13, 14, 15] ?_
        iterate 16
          refine tk_one (v := ?_) (by first | exact hF | exact wideFn) (HS4.out _ HB.out) rfl (by kernel_rfl) (by kernel_rfl) (by kernel_rfl) (by kernel_rfl) rfl ?_ (by first | exact fun _ _ _ h => h | exact fun _ _ _ h => hQ2 _ _ _ _ _ h) ?_
          rotate_left
          · intro W hSW
            simp only [glA, glB, glC]
            (try dsimp only at hSW)
            go_simp
            with_reducible rfl
          (try simp only [glA, glB, glC, Act.put, glD, glE, glF])
        refine tk_end ?_
        refine tk_start [16, 17, 18, 19, 20, 21] ?_
        iterate 6
          refine tk_skip (by first | exact hF | exact wideFn) (HS4.out _ HB.out) rfl (by kernel_rfl) (by kernel_rfl) (by kernel_rfl) (by kernel_rfl) rfl (by first | exact fun _ _ _ h => h | exact fun _ _ _ h => hQ2 _ _ _ _ _ h) ?_
          (try simp only [glA, glB, glC, Act.put, glD, glE, glF])
        refine tk_end ?_
        refine wpAnyJ_take 22 (v := ?_) (by first | exact hF | exact wideFn) (HS4.out _ HB.out) rfl (by kernel_rfl) (by kernel_rfl) (by kernel_rfl) (by kernel_rfl) rfl ?_ (by first | exact fun _ _ _ h => h | exact fun _ _ _ h => hQ2 _ _ _ _ _ h) ?_
        rotate_left
        · intro W hSW
          simp only [glA, glB, glC]
          (try dsimp only at hSW)
          go_simp
          with_reducible rfl
        (try simp only [glA, glB, glC, Act.put, glD, glE, glF])
        refine wpAnyJ_take 23 (v := ?_) (by first | exact hF | exact wideFn) (HS4.out _ HB.out) rfl (by kernel_rfl) (by kernel_rfl) (by kernel_rfl) (by kernel_rfl) rfl ?_ (by first | exact fun _ _ _ h => h | exact fun _ _ _ h => hQ2 _ _ _ _ _ h) ?_
        rotate_left
        · intro W hSW
          simp only [glA, glB, glC]
          (try dsimp only at hSW)
          go_simp
          with_reducible rfl
        (try simp only [glA, glB, glC, Act.put, glD, glE, glF])
        refine tk_start [24, 25, 26, 27, 28, 29, 30, 31, 32, 33, 34, 35, 36, 37] ?_
        iterate 14
          refine tk_skip (by first | exact hF | exact wideFn) (HS4.out _ HB.out) rfl (by kernel_rfl) (by kernel_rfl) (by kernel_rfl) (by kernel_rfl) rfl (by first | exact fun _ _ _ h => h | exact fun _ _ _ h => hQ2 _ _ _ _ _ h) ?_
          (try simp only [glA, glB, glC, Act.put, glD, glE, glF])
        refine tk_end ?_
        refine wpAnyJ_take 38 (v := ?_) (by first | exact hF | exact wideFn) (HS4.out _ HB.out) rfl (by kernel_rfl) (by kernel_rfl) (by kernel_rfl) (by kernel_rfl) rfl ?_ (by first | exact fun _ _ _ h => h | exact fun _ _ _ h => hQ2 _ _ _ _ _ h) ?_
        rotate_left
        · intro W hSW
          simp only [glA, glB, glC]
          (try dsimp only at hSW)
          go_simp
          with_reducible rfl
        (try simp only [glA, glB, glC, Act.put, glD, glE, glF])
        refine wpAnyJ_done (by kernel_rfl) ?_
        go_wp2_with fail
        go_ret
        exact ⟨by rw [HE.out]; rfl, HB1.out.trans (HB.out.mono HB1.out.size)⟩
      by_cases c3 : x = (act : Int)
      · have HE : Hid (R = false) := hide (HNO.out (.inr (.inr c3)))
        have c3b : (x == (act : Int)) = true := by rw [c3]; exact beq_self_eq_true _
        clear hy0 c3
        refine wp_region_J (fun W : World => ((W.cell? ⟨xb, xo + j, none⟩ = some (.int .i64 x) ∧ (0 < j → W.cell? ⟨xb, xo + (j - 1), none⟩ = some (.int .i64 y))) ∧ W.cell? ⟨G, 0, none⟩ = some (.slice d.A n d.c))) (by kernel_rfl) ?_
        generalize wr.drew = wd at HB ⊢
        refine tk_start [0, 1, 2, 3, 4, 5, 6, 7, 8, 9, 10, 11, 12, 13, 14, 15, 16, 17, 18, 19, 20, 21, 22, 23] ?_
        iterate 24
          refine tk_one (v := ?_) (by first | exact hF | exact wideFn) (HS4.out _ HB.out) rfl (by kernel_rfl) (by kernel_rfl) (by kernel_rfl) (by kernel_rfl) rfl ?_ (by first | exact fun _ _ _ h => h | exact fun _ _ _ h => hQ2 _ _ _ _ _ h) ?_
          rotate_left
          · intro W hSW
            simp only [glA, glB, glC]
            (try dsimp only at hSW)
            go_simp
            with_reducible rfl
          (try simp only [glA, glB, glC, Act.put, glD, glE, glF])
        refine tk_end ?_
        refine tk_start [24, 25, 26, 27, 28, 29, 30, 31, 32, 33, 34, 35, 36, 37] ?_
        iterate 14
          refine tk_skip (by first | exact hF | exact wideFn) (HS4.out _ HB.out) rfl (by kernel_rfl) (by kernel_rfl) (by kernel_rfl) (by kernel_rfl) rfl (by first | exact fun _ _ _ h => h | exact fun _ _ _ h => hQ2 _ _ _ _ _ h) ?_
          (try simp only [glA, glB, glC, Act.put, glD, glE, glF])
        refine tk_end ?_
        refine wpAnyJ_take 38 (v := ?_) (by first | exact hF | exact wideFn) (HS4.out _ HB.out) rfl (by kernel_rfl) (by kernel_rfl) (by kernel_rfl) (by kernel_rfl) rfl ?_ (by first | exact fun _ _ _ h => h | exact fun _ _ _ h => hQ2 _ _ _ _ _ h) ?_
        rotate_left
        · intro W hSW
          simp only [glA, glB, glC]
          (try dsimp only at hSW)
          go_simp
          with_reducible rfl
        (try simp only [glA, glB, glC, Act.put, glD, glE, glF])
        refine wpAnyJ_done (by kernel_rfl) ?_
        go_wp2_with fail
        go_ret
        exact ⟨by rw [HE.out]; rfl, HB1.out.trans (HB.out.mono HB1.out.size)⟩
      have c3b : (x == (act : Int)) = false := by rw [beq_eq_false_iff_ne]; exact c3
      by_cases h0 : j = 0
      · have x4 : ¬ (j : Int) > 0 := by omega
        have x5 : ¬ (0 : Int) < (j : Int) := by omega
        have x6 : ¬ 0 < j := by omega
        have HY2 := hide (HYES.out (by have := HPV.out.1 h0; omega))
        clear h0 hy0
        refine wp_region_J (fun W : World => ((W.cell? ⟨xb, xo + j, none⟩ = some (.int .i64 x) ∧ (0 < j → W.cell? ⟨xb, xo + (j - 1), none⟩ = some (.int .i64 y))) ∧ W.cell? ⟨G, 0, none⟩ = some (.slice d.A n d.c))) (by kernel_rfl) ?_
        generalize wr.drew = wd at HB ⊢
        refine tk_start [0, 1, 2, 3, 4, 5, 6, 7, 8, 9, 10, 11, 12, 13, 14, 15, 16, 17, 18, 19, 20, 21, 22, 23, 24, 25, 26] ?_
        iterate 27
          refine tk_one (v := ?_) (by first | exact hF | exact wideFn) (HS4.out _ HB.out) rfl (by kernel_rfl) (by kernel_rfl) (by kernel_rfl) (by kernel_rfl) rfl ?_ (by first | exact fun _ _ _ h => h | exact fun _ _ _ h => hQ2 _ _ _ _ _ h) ?_
          rotate_left
          · intro W hSW
            simp only [glA, glB, glC]
            (try dsimp only at hSW)
            go_simp
            with_reducible rfl
          (try simp only [glA, glB, glC, Act.put, glD, glE, glF])
        refine tk_end ?_
        refine tk_start [27, 28, 29, 30, 31, 32, 33, 34, 35, 36] ?_
        iterate 10
          refine tk_skip (by first | exact hF | exact wideFn) (HS4.out _ HB.out) rfl (by kernel_rfl) (by kernel_rfl) (by kernel_rfl) (by kernel_rfl) rfl (by first | exact fun _ _ _ h => h | exact fun _ _ _ h => hQ2 _ _ _ _ _ h) ?_
          (try simp only [glA, glB, glC, Act.put, glD, glE, glF])
        refine tk_end ?_
        refine wpAnyJ_take 37 (v := ?_) (by first | exact hF | exact wideFn) (HS4.out _ HB.out) rfl (by kernel_rfl) (by kernel_rfl) (by kernel_rfl) (by kernel_rfl) rfl ?_ (by first | exact fun _ _ _ h => h | exact fun _ _ _ h => hQ2 _ _ _ _ _ h) ?_
        rotate_left
        · intro W hSW
          simp only [glA, glB, glC]
          (try dsimp only at hSW)
          go_simp
          with_reducible rfl
        (try simp only [glA, glB, glC, Act.put, glD, glE, glF])
        refine wpAnyJ_take 38 (v := ?_) (by first | exact hF | exact wideFn) (HS4.out _ HB.out) rfl (by kernel_rfl) (by kernel_rfl) (by kernel_rfl) (by kernel_rfl) rfl ?_ (by first | exact fun _ _ _ h => h | exact fun _ _ _ h => hQ2 _ _ _ _ _ h) ?_
        rotate_left
        · intro W hSW
          simp only [glA, glB, glC]
          (try dsimp only at hSW)
          go_simp
          with_reducible rfl
        (try simp only [glA, glB, glC, Act.put, glD, glE, glF])
        refine wpAnyJ_done (by kernel_rfl) ?_
        go_wp2_with fail
        go_roundw
        case rel => exact ⟨j + 1, by omega, by go_num, HY2, HB⟩
        case measure => simp [intOf]; omega
      · have hk0 : 0 < j := by omega
        have x4 : (j : Int) > 0 := by omega
        have x9 : (0 : Int) < (j : Int) := by omega
        obtain ⟨jp, hjp⟩ : ∃ jp, j = jp + 1 := ⟨j - 1, by omega⟩
        have x5 : IntKind.i64.wrap ((j : Int) - 1) = ((jp : Nat) : Int) := by rw [IntWalk.i64_in _ (by omega)]; omega
        have x6 : jp < ll := by omega
        have x7 : (jp : Int) < (ll : Int) := by omega
        have HS4b : Hid (∀ W, Below w1.heap.size w1 W → ((W.cell? ⟨xb, xo + j, none⟩ = some (.int .i64 x) ∧ W.cell? ⟨xb, xo + jp, none⟩ = some (.int .i64 y)) ∧ W.cell? ⟨G, 0, none⟩ = some (.slice d.A n d.c))) := hide fun W h => by
          have q := HS4.out W h
          have q2 := q.1.2 hk0
          rw [show j - 1 = jp by omega] at q2
          exact ⟨⟨q.1.1, q2⟩, q.2⟩
        have HPJ := hide (HPV.out.2 hk0)
        clear hjp h0 hy0
        refine wp_region_J (fun W : World => ((W.cell? ⟨xb, xo + j, none⟩ = some (.int .i64 x) ∧ W.cell? ⟨xb, xo + jp, none⟩ = some (.int .i64 y)) ∧ W.cell? ⟨G, 0, none⟩ = some (.slice d.A n d.c))) (by kernel_rfl) ?_
        generalize wr.drew = wd at HB ⊢
        by_cases c4 : y ≥ x
        · have HE : Hid (R = false) := hide (HNO.out (.inl (by have := HPJ.out; omega)))
          refine tk_start [0, 1, 2, 3, 4, 5, 6, 7, 8, 9, 10, 11, 12, 13, 14, 15, 16, 17, 18, 19, 20, 21, 22, 23, 24, 25, 26, 27, 28, 29, 30, 31, 32, 33, 34, 35, 36, 37, 38] ?_
          iterate 39
            refine tk_one (v := ?_) (by first | exact hF | exact wideFn) (HS4b.out _ HB.out) rfl (by kernel_rfl) (by kernel_rfl) (by kernel_rfl) (by kernel_rfl) rfl ?_ (by first | exact fun _ _ _ h => h | exact fun _ _ _ h => hQ2 _ _ _ _ _ h) ?_
            rotate_left
            · intro W hSW
              simp only [glA, glB, glC]
              (try dsimp only at hSW)
              go_simp
              with_reducible rfl
            (try simp only [glA, glB, glC, Act.put, glD, glE, glF])
          refine tk_end ?_
          refine wpAnyJ_done (by kernel_rfl) ?_
          go_wp2_with fail
          go_ret
          exact ⟨by rw [HE.out]; rfl, HB1.out.trans (HB.out.mono HB1.out.size)⟩
        · have HY2 := hide (HYES.out (by have := HPJ.out; omega))
          refine tk_start [0, 1, 2, 3, 4, 5, 6, 7, 8, 9, 10, 11, 12, 13, 14, 15, 16, 17, 18, 19, 20, 21, 22, 23, 24, 25, 26, 27, 28, 29, 30, 31, 32, 33, 34, 35, 36, 37, 38] ?_
          iterate 39
            refine tk_one (v := ?_) (by first | exact hF | exact wideFn) (HS4b.out _ HB.out) rfl (by kernel_rfl) (by kernel_rfl) (by kernel_rfl) (by kernel_rfl) rfl ?_ (by first | exact fun _ _ _ h => h | exact fun _ _ _ h => hQ2 _ _ _ _ _ h) ?_
            rotate_left
            · intro W hSW
              simp only [glA, glB, glC]
              (try dsimp only at hSW)
              go_simp
              with_reducible rfl
            (try simp only [glA, glB, glC, Act.put, glD, glE, glF])
          refine tk_end ?_
          refine wpAnyJ_done (by kernel_rfl) ?_
          go_wp2_with fail
          go_roundw
          case rel => exact ⟨j + 1, by omega, by go_num, HY2, HB⟩
          case measure => simp [intOf]; omega
    · obtain rfl : ll = j := by omega
      have hnl : ¬ (ll : Int) < (ll : Int) := by omega
      have HE : Hid (R = true) := hide (by
        rw [← HX.out.1, List.drop_eq_nil_of_le (by rw [HLL.out]; exact Nat.le_refl _)]; rfl)
      go_wp2_with fail
      go_ret
      exact ⟨by rw [HE.out]; rfl, HB1.out.trans (HB.out.mono HB1.out.size)⟩
end Go.Proofs.YtcgdalabenflmaaDoor
