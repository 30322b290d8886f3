/- Rite: hopeless, walked. -/
import Derived.Test.YtcgdalabenflmaaDoorOpensE
import Derived.Test.YtcgdalabenflmaaDoorRows
import Derived.ProofKit
import Derived.OpenShut
import Derived.Carry
import Derived.ChangeSame
import Derived.Deep.SlicePairs
import Derived.ChangeSlices
import Derived.Deep.Fields
import Derived.Lib.LaidU8
import Derived.MakeChecks
set_option linter.unusedSimpArgs false
set_option linter.unusedVariables false
set_option linter.unnecessarySimpa false
namespace Go.Proofs.YtcgdalabenflmaaDoor
open List renaming getElem_toArray → glA, getElem_cons_zero → glB, getElem_cons_succ → glC, setIfInBounds_toArray → glD, set_cons_zero → glE, set_cons_succ → glF
open Go Go.RowKit Go.Shelf
attribute [local go_sem] Oper.semAt_some
set_option maxHeartbeats 8000000
set_option maxRecDepth 100000
abbrev mkD (D : Nat) : Deferred := { target := .collected D, args := #[] }
/-- leaving with any number of marks -/
theorem leaves_marks {F : Fence} {n : Nat} {P : Program} {fn : Func} {tmps : Array Value} {R : Ending → World → Prop} {n0 : Nat} {w : World} : ∀ (Ds : List Nat) (W : World), Below n0 w W → n0 ≤ W.heap.size → Ds.Pairwise (· ≠ ·) → (∀ D ∈ Ds, n0 ≤ D ∧ W.heap[D]? = some (.deferred (some []))) →
    (∀ W', Below n0 w W' → LeavesInM F n P fn tmps R [] .returning W') → LeavesInM F n P fn tmps R (Ds.map mkD) .returning W
  | [], W, hb, _, _, _, h => h W hb
  | D :: Ds, W, hb, hn, hd, hD, h => by
    obtain ⟨h1, h2⟩ := List.pairwise_cons.1 hd
    have hD0 := hD D (by simp)
    refine ⟨by simp, .inl ⟨D, _, rfl, run_takeDeferred hD0.2, ?_⟩⟩
    refine leaves_marks Ds _ (hb.grown (grownBy_putObj' W D (.deferred none)) hn (fun k e => by cases e; exact hD0.1)) (by simpa using hn) h2 (fun D' hm => ?_) h
    have h3 := hD D' (by simp [hm])
    exact ⟨h3.1, (World.putObj_heap_other (h1 D' hm).symm).trans h3.2⟩
/-- marks that are not yet taken -/
structure MkI (w : World) (N : Nat) (Ds : List Nat) (W : World) : Prop where
  ne : Ds.Pairwise (· ≠ ·)
  at_ : ∀ D ∈ Ds, w.heap.size ≤ D ∧ D < N ∧ W.heap[D]? = some (.deferred (some []))
theorem MkI.keeps {w W W' : World} {N : Nat} {Ds : List Nat} (h : MkI w N Ds W) (k : KeepsOthers W W') : MkI w N Ds W' :=
  ⟨h.ne, fun D hD => by obtain ⟨h1, h2, h3⟩ := h.at_ D hD; exact ⟨h1, h2, k.same D _ h3 rfl⟩⟩
theorem MkI.mono {w W : World} {N N' : Nat} {Ds : List Nat} (h : MkI w N Ds W) (k : N ≤ N') : MkI w N' Ds W :=
  ⟨h.ne, fun D hD => by obtain ⟨h1, h2, h3⟩ := h.at_ D hD; exact ⟨h1, Nat.lt_of_lt_of_le h2 k, h3⟩⟩
theorem MkI.grown {w W W' : World} {N : Nat} {Ds : List Nat} (h : MkI w N Ds W) {row : Option Nat} (hg : W.grownBy W' row) (hr : ∀ r, row = some r → N ≤ r) : MkI w N Ds W' :=
  ⟨h.ne, fun D hD => by
    obtain ⟨h1, h2, h3⟩ := h.at_ D hD
    exact ⟨h1, h2, (hg.block D (Array.getElem?_eq_some_iff.1 h3).1 (fun e => by have := hr D e.symm; omega)).trans h3⟩⟩
theorem MkI.more {w W : World} {N D : Nat} {Ds : List Nat} (h : MkI w N Ds W) (hw : w.heap.size ≤ N) (hN : N ≤ D) (hD : W.heap[D]? = some (.deferred (some []))) : MkI w W.heap.size (D :: Ds) W :=
  ⟨List.pairwise_cons.2 ⟨fun D' hm e => by have := (h.at_ D' hm).2.1; omega, h.ne⟩, fun D' hm => by
    rcases List.mem_cons.1 hm with rfl | hm
    · exact ⟨Nat.le_trans hw hN, (Array.getElem?_eq_some_iff.1 hD).1, hD⟩
    · obtain ⟨h1, h2, h3⟩ := h.at_ D' hm
      exact ⟨h1, (Array.getElem?_eq_some_iff.1 h3).1, h3⟩⟩
/-- what the call keeps -/
structure HpS (w W : World) (g b D : Nat) (day de : Int) : Prop where
  lo : Below w.heap.size w W
  k2 : Blk W g 73 #[.pointer (some ⟨b, 0, none⟩)]
  k3 : Blk W (g + 1) 77 #[.int .u16 (D : Nat), .int .i64 day, .int .i64 de]
theorem HpS.ext {w W W' : World} {g b D : Nat} {day de : Int} (h : HpS w W g b D day de) (hb : Below W.heap.size W W') : HpS w W' g b D day de :=
  ⟨h.lo.trans (hb.mono h.lo.size), h.k2.ext hb, h.k3.ext hb⟩
theorem HpS.keptN {w W W' : World} {g b D : Nat} {day de : Int} (h : HpS w W g b D day de) {row : Option Nat} (hg : W.grownBy W' row) (hr : ∀ r, row = some r → w.heap.size ≤ r ∧ ∃ o : Obj, W.heap[r]? = some o ∧ o.isCells = false) : HpS w W' g b D day de :=
  ⟨h.lo.grown hg h.lo.size (fun r e => (hr r e).1), h.k2.keptN hg (fun r e => (hr r e).2), h.k3.keptN hg (fun r e => (hr r e).2)⟩
theorem HpS.set {w W : World} {g b D : Nat} {day de : Int} (h : HpS w W g b D day de) {p : Nat} (hp : w.heap.size ≤ p) (h2 : g + 1 < p) (v : Value) : HpS w (W.setCell ⟨p, 0, none⟩ v) g b D day de :=
  ⟨h.lo.setCell (p := ⟨p, 0, none⟩) hp v, h.k2.far (p := ⟨p, 0, none⟩) (by show g ≠ p; omega) v, h.k3.far (p := ⟨p, 0, none⟩) (by show g + 1 ≠ p; omega) v⟩
/-- a range within a round whose assignment only moves values -/
theorem wpIn_rangeFunc_listNa {F : Fence} {n : Nat} {P : Program} {α : Type} {g : Operand} {ps : Array Tmp} {assign body : Code} {Q : Exit → Act → World → Prop} {a : Act} {w : World}
    {l₀ : Nat} {r₀ : Loop} (hro : F.round = some l₀) (hl₀ : w.heap[l₀]? = some (.loop r₀)) (h1 : 1 ≤ n) {gf : Nat} {fs lb : Array Value} (hg : a.eval g = .func (.func gf) fs lb) (hFg : F.fn gf) (eg : ∀ args w, (callFunc gf args).run P w = .ok (.enter gf args) w)
    {encs : α → Array Value} {R : World → Prop} {L : List α} {w0 : World} (hseq : SeqL F (n - 1) P gf fs lb encs R L w0)
    (hb0 : Below w0.heap.size w0 w) (hps : ∀ x, (encs x).size = ps.size)
    (I : List α → World → Prop) (Ix : Code → List α → World → Prop) (hI : OwnFrom w.heap.size I) (hIR : ∀ pre W, I pre W → R W) (hIx : ∀ c, OwnFrom w.heap.size (Ix c)) (h0 : I [] w) (a₁ : α → Act)
    (hassign : ∀ (l : Nat) (x : α) (W : World) (K : Act → World → Prop), K (a₁ x) W →
      assign.wpIn (F.inRound l) (n - 1 - 1) P (Exit.then K (fun _ _ _ => False)) { tmps := (ps.zip (encs x)).foldl (fun t (p, v) => t.setIfInBounds p v) a.tmps, defers := [] } W)
    (hbody : ∀ (l : Nat) (pre : List α) (x : α) (W : World), w.heap.size ≤ l → pre ++ [x] <+: L → I pre W → body.wpIn (F.inRound l) (n - 1 - 1) P (ownPostG w.heap.size (fun _ _ => True) I Ix (pre ++ [x]) W) (a₁ x) W)
    (hdone : ∀ (W : World), I L W → Q .normal a W)
    (hstop : ∀ (c : Code) (pre : List α) (W : World), pre <+: L → Ix c pre W → c.wpIn F n P Q a W) :
    (Code.rangeFunc g ps assign body).wpIn F n P Q a w :=
  wpIn_rangeFunc_listN hro hl₀ h1 hg hFg eg hseq hb0 hps I Ix hI hIR hIx h0 (fun x a' _ => a' = a₁ x) (fun _ _ _ _ _ _ h _ _ => h)
    (fun l pre x W K hi hK => hassign l x W K (hK _ W (KeepsFrom.refl _ _) hi rfl)) (fun l pre x a' W hl _ hp hi h => by rw [h]; exact hbody l pre x W hl hp hi) hdone hstop
/-- the set that is lost -/
def hpM (h5 : Nat) (w : World) : Nat := match w.cell? ⟨h5, 0, none⟩ with | some (.int _ x) => x.toNat | _ => 0
theorem hpM_eq {h5 X : Nat} {w : World} (h : Blk w h5 75 #[.int .u16 (X : Nat)]) : hpM h5 w = X := by
  unfold hpM
  rw [h.cell]
  exact Int.toNat_natCast X
theorem hopeless_any (b : Nat) (d : Rad) (q : Bad) (r : Rit) (m : Mom) (w : World) (hr : RiOk r) (hd : m.d < 65536) (hB : BkR w b d q r) (hT : TB w) :
    Calls Tryd.prog 52 #[.pointer (some ⟨b, 0, none⟩), momV m] w fun e w' => e = .returned (.int .u16 (hpS r m : Nat)) ∧ Below w.heap.size w w' := by
  have h10 := hr.n10
  have HR := hide hr
  have HBK := hide hB
  have HTB := hide hT
  have HSE := hide (fun W (h : BkR W b d q r) => settled_any b d q r m.d W hr hd h)
  have HOU := hide (fun W (h : BkR W b d q r) => out_any b d q r m.day W hr h)
  have HQ : Hid (∀ X, HoI r m.d m.day X → hoS r m.day X = X → X = hpS r m) := hide fun X h1 h2 => hp_eq h1 h2
  have HI0 := hide (HoI.init r m.d m.day)
  obtain ⟨Z, hZ⟩ : ∃ x, hpS r m = x := ⟨_, rfl⟩
  rw [hZ] at HQ ⊢
  clear hZ
  obtain ⟨D, day, de⟩ := m
  obtain ⟨n, hn⟩ : ∃ n, r.n = n := ⟨_, rfl⟩
  have HN := hide hn
  unfold hpB at HI0
  unfold momV
  dsimp only at HSE HOU HQ HI0 hd ⊢
  rw [hn] at h10 HI0
  have hse : seS r D < 65536 := seS_lt hr D
  have hou : ouS r day < 65536 := lt16 (mkS_lt _ r.n) (by omega)
  obtain ⟨SE, hSE⟩ : ∃ x, seS r D = x := ⟨_, rfl⟩
  rw [hSE] at HSE HI0 hse
  clear hSE
  have h2n : 2 ^ n ≤ 2 ^ 10 := Nat.pow_le_pow_right (by decide) h10
  have h2p : 0 < 2 ^ n := Nat.pow_pos (by decide)
  obtain ⟨P2, hP2⟩ : ∃ P : Nat, 2 ^ n = P := ⟨_, rfl⟩
  have hPi : (2 : Int) ^ n = (P2 : Int) := by rw [← hP2, Int.natCast_pow]; rfl
  rw [hP2] at h2n h2p HI0
  obtain ⟨P1, hP1⟩ : ∃ P : Nat, P2 - 1 = P := ⟨_, rfl⟩
  rw [hP1] at HI0
  have p0 : (0 : Int) ≤ (n : Int) := by omega
  have p1 : (n : Int) ≤ 64 := by omega
  have p2 : IntKind.u16.wrap (1 * 2 ^ n) = (P2 : Int) := by rw [Int.one_mul, hPi]; exact wrap16 (by omega)
  have p3 : IntKind.u16.wrap (2 ^ n) = (P2 : Int) := by rw [hPi]; exact wrap16 (by omega)
  have p4 : IntKind.u16.wrap ((P2 : Int) - 1) = (P1 : Int) := by rw [show ((P2 : Int) - 1) = (P1 : Int) by omega]; exact wrap16 (by omega)
  have p6 : IntKind.u16.wrap (P2 : Int) = (P2 : Int) := wrap16 (by omega)
  have p5 := not16 (show P1 < 65536 by omega) hse
  obtain ⟨X0, hX0⟩ : ∃ x, anN P1 SE = x := ⟨_, rfl⟩
  rw [hX0] at p5 HI0
  clear hX0
  refine (callsIn_wide (n := 9)).1 ?_
  obtain ⟨F, hFw⟩ : ∃ F : Fence, F = Fence.wide := ⟨_, rfl⟩
  rw [← hFw]
  have hF : ∀ f, F.fn f := by rw [hFw]; exact fun _ => trivial
  have hro : F.round = none := by rw [hFw]; rfl
  have hwd : ∀ {n f args w R}, Calls Tryd.prog f args w R → CallsIn F n Tryd.prog f args w R := by rw [hFw]; exact fun h => callsIn_wide.2 h
  clear hFw
  have HB1 : Hid (Below w.heap.size w ((w.alloc (.cells #[.pointer (some ⟨b, 0, none⟩)] 73)).alloc (.cells #[.int .u16 (D : Nat), .int .i64 day, .int .i64 de] 77))) := hide (((Below.refl _ _).alloc (Nat.le_refl _) _).alloc (by simp) _)
  have G2 : Hid (Blk ((w.alloc (.cells #[.pointer (some ⟨b, 0, none⟩)] 73)).alloc (.cells #[.int .u16 (D : Nat), .int .i64 day, .int .i64 de] 77)) w.heap.size 73 #[.pointer (some ⟨b, 0, none⟩)]) := hide ((Blk.new w _ _).alloc _)
  have G3 : Hid (Blk ((w.alloc (.cells #[.pointer (some ⟨b, 0, none⟩)] 73)).alloc (.cells #[.int .u16 (D : Nat), .int .i64 day, .int .i64 de] 77)) (w.heap.size + 1) 77 #[.int .u16 (D : Nat), .int .i64 day, .int .i64 de]) := hide (by simpa using Blk.new (w.alloc (.cells #[.pointer (some ⟨b, 0, none⟩)] 73)) 77 #[.int .u16 (D : Nat), .int .i64 day, .int .i64 de])
  obtain ⟨g, hg⟩ : ∃ x, w.heap.size = x := ⟨_, rfl⟩
  have HG : Hid (w.heap.size = g) := hide hg
  have HS1 : Hid (HpS w ((w.alloc (.cells #[.pointer (some ⟨b, 0, none⟩)] 73)).alloc (.cells #[.int .u16 (D : Nat), .int .i64 day, .int .i64 de] 77)) g b D day de) := hide ⟨HB1.out, by rw [← hg]; exact G2.out, by rw [← hg]; exact G3.out⟩
  have HSA : Hid (∀ W, HpS w W g b D day de → (W.cell? ⟨g, 0, none⟩ = some (.pointer (some ⟨b, 0, none⟩)) ∧ (W.cell? ⟨g + 1, 0, none⟩ = some (.int .u16 (D : Nat)) ∧ W.cell? ⟨g + 1, 1, none⟩ = some (.int .i64 day)) ∧ (W.cell? ⟨b, 0, none⟩ = some (.slice d.A n d.c) ∧ W.cell? ⟨b, 3, none⟩ = some (.slice q.pn n n) ∧ W.cell? ⟨b, 4, none⟩ = some (.slice q.pw n n)))) := hide (fun W h => by
    obtain ⟨-, x0, -⟩ := blk1 h.k2
    obtain ⟨-, y0, y1, y2, -⟩ := blk3 h.k3
    have u := bx8 (hB.ext h.lo).blk
    rw [hn] at u
    exact ⟨x0, ⟨y0, y1⟩, u.2.1, u.2.2.2.2.1, u.2.2.2.2.2.1⟩)
  refine callsIn_of_wp_marks Tryd.func52 rfl (hF _) ?_ hro
  simp only [Tryd.ntmps52, List.size_toArray, List.length_cons, List.length_nil, Nat.reduceAdd, Nat.reduceSub, Array.replicate_succ, Array.replicate_zero, List.push_toArray, List.append_toArray, List.nil_append, List.cons_append]
  clear G2 G3 HB1 hB hT hr hn hP1 hP2 h2n h2p
  gi_wp2_with fail
  rename_i K1 hK1
  (try simp only [World.size_alloc])
  (try rw [hg])
  clear hg
  have HK1 := hide hK1
  clear hK1
  have REST1 : Hid (∀ (h5 : Nat) (W : World), w.heap.size ≤ h5 → g + 1 < h5 → HpS w W g b D day de → Blk W h5 75 #[.int .u16 (X0 : Nat)] → K1 { tmps := #[.pointer (some ⟨b, 0, none⟩), .agg #[.int .u16 (D : Nat), .int .i64 day, .int .i64 de], .pointer (some ⟨g, 0, none⟩), .pointer (some ⟨g + 1, 0, none⟩), .int .u16 0, .pointer (some ⟨h5, 0, none⟩), undef, undef, undef, undef, .pointer (some ⟨b, 0, none⟩), .pointer (some ⟨b, 0, none⟩), .pointer (some ⟨b, 0, none⟩), .pointer (some ⟨b, 0, none⟩), .slice d.A n d.c, .int .i64 n, .int .u16 (P2 : Nat), .int .u16 (P1 : Nat), .pointer (some ⟨b, 0, none⟩), .pointer (some ⟨g + 1, 0, none⟩), .int .u16 (D : Nat), .int .u16 (SE : Nat), .int .u16 (X0 : Nat), undef, undef, undef, undef, undef, undef, undef, undef, undef, undef, undef, undef, undef, undef, undef, undef, undef, undef, undef, undef, undef, undef, undef, undef, undef, undef, undef, undef, undef, undef, undef, undef, undef, undef, undef, undef, undef, undef, undef, undef, undef, undef, undef], defers := [] } W) := by
    refine hide ?_
    intro h5 W hlo5 hg5 hS h5k
    refine HK1.out _ _ ?_
    clear HK1 HS1
    dsimp only
    obtain ⟨s1, ⟨s2, s3⟩, s4, s5, s6⟩ := HSA.out _ hS
    obtain ⟨O, hO⟩ : ∃ x, ouS r day = x := ⟨_, rfl⟩
    have HO := hide hO
    rw [hO] at HOU hou
    clear hO
    gi_wp2_with fail
    refine (hwd (HOU.out W (HBK.out.ext hS.lo))).mono ?_
    rintro e w3 ⟨rfl, h3⟩
    clear s1 s2 s3 s4 s5 s6
    gi_wp2_with fail
    have hb3 : Below w3.heap.size w3 (w3.alloc (.cells #[.int .u16 (O : Nat)] 75)) := (Below.refl _ _).alloc (Nat.le_refl _) _
    have HLO : Hid (w.heap.size ≤ h5 ∧ g + 1 < h5 ∧ h5 < w3.heap.size) := hide ⟨hlo5, hg5, Nat.lt_of_lt_of_le h5k.lt h3.size⟩
    have HS := hide ((hS.ext h3).ext hb3)
    have H5 := hide ((h5k.ext h3).ext hb3)
    have H6 := hide (Blk.new w3 75 #[.int .u16 (O : Nat)])
    clear hlo5 hg5 hS h5k h3 hb3
    generalize w3.alloc (.cells #[.int .u16 (O : Nat)] 75) = w4 at HS H5 H6 ⊢
    obtain ⟨h6, hh6⟩ : ∃ x, w3.heap.size = x := ⟨_, rfl⟩
    rw [hh6] at H6 HLO ⊢
    clear hh6
    refine wpIn_loop (fun a' w' => ∃ (u7 u27 u28 u29 u61 u62 u63 u65 : Value) (Ds : List Nat) (X : Nat), a' = { tmps := #[.pointer (some ⟨b, 0, none⟩), .agg #[.int .u16 (D : Nat), .int .i64 day, .int .i64 de], .pointer (some ⟨g, 0, none⟩), .pointer (some ⟨g + 1, 0, none⟩), .int .u16 0, .pointer (some ⟨h5, 0, none⟩), (.pointer (some ⟨h6, 0, none⟩)), u7, undef, undef, .pointer (some ⟨b, 0, none⟩), .pointer (some ⟨b, 0, none⟩), .pointer (some ⟨b, 0, none⟩), .pointer (some ⟨b, 0, none⟩), .slice d.A n d.c, .int .i64 n, .int .u16 (P2 : Nat), .int .u16 (P1 : Nat), .pointer (some ⟨b, 0, none⟩), .pointer (some ⟨g + 1, 0, none⟩), .int .u16 (D : Nat), .int .u16 (SE : Nat), .int .u16 (X0 : Nat), (.pointer (some ⟨b, 0, none⟩)), (.pointer (some ⟨g + 1, 1, none⟩)), (.int .i64 day), (.int .u16 (O : Nat)), u27, u28, u29, undef, undef, undef, undef, undef, undef, undef, undef, undef, undef, undef, undef, undef, undef, undef, undef, undef, undef, undef, undef, undef, undef, undef, undef, undef, undef, undef, undef, undef, undef, undef, u61, u62, u63, undef, u65], defers := Ds.map mkD } ∧
      HpS w w' g b D day de ∧ Blk w' h5 75 #[.int .u16 (X : Nat)] ∧ Blk w' h6 75 #[.int .u16 (O : Nat)] ∧ MkI w w'.heap.size Ds w' ∧ HoI r D day X)
      (fun _ w' => hpM h5 w') ⟨undef, undef, undef, undef, undef, undef, undef, undef, [], X0, rfl, HS.out, H5.out, H6.out, ⟨List.Pairwise.nil, fun D h => by cases h⟩, HI0.out⟩ ?_
    clear HS H5 H6 HI0 p2 p3 p4 p5 p6 hPi
    rintro a' w' ⟨u7, u27, u28, u29, u61, u62, u63, u65, Ds, X, rfl, hS, h5k, h6k, hM, hX⟩
    dsimp only
    obtain ⟨f5, c5, e5⟩ := blk1 h5k
    gi_wp2_with fail
    have hb7 : Below w'.heap.size w' (w'.alloc (.cells #[.int .u16 (X : Nat)] 75)) := (Below.refl _ _).alloc (Nat.le_refl _) _
    have HS := hide (hS.ext hb7)
    have H5 := hide (h5k.ext hb7)
    have H6 := hide (h6k.ext hb7)
    have H7 := hide (Blk.new w' 75 #[.int .u16 (X : Nat)])
    have HM := hide ((hM.keeps (keepsO hb7)).mono hb7.size)
    have HX := hide hX
    have HMU := hide (hpM_eq h5k)
    have HG7 : Hid (g + 1 < w'.heap.size) := hide hS.k3.lt
    have HW7 : Hid (w.heap.size ≤ w'.heap.size ∧ h6 < w'.heap.size ∧ h5 < w'.heap.size) := hide ⟨hS.lo.size, h6k.lt, h5k.lt⟩
    clear hS h5k h6k hM hX hb7 f5 c5 e5
    (try rw [HMU.out])
    generalize w'.alloc (.cells #[.int .u16 (X : Nat)] 75) = w7 at HS H5 H6 H7 HM ⊢
    obtain ⟨h7, hh7⟩ : ∃ x, w'.heap.size = x := ⟨_, rfl⟩
    rw [hh7] at H7 HW7 HG7 ⊢
    clear hh7
    have HN7 := hide (Nat.le_refl w7.heap.size)
    have hlo7 : w.heap.size ≤ w7.heap.size := HS.out.lo.size
    have HL7 := hide hlo7
    have hst := all_seq F (9 - 1) hF hro (by omega) hwd X w7 HX.out.lt
    refine wpIn_rangeFunc_listH hro (by omega) (gf := 66) (fs := #[.int .u16 (X : Nat)]) (lb := #[]) rfl (hF _) (enters_of Tryd.func66 (by kernel_rfl) rfl)
      hst (Below.refl _ _) (fun _ => rfl)
      (fun pre W => HpS w W g b D day de ∧ Blk W h5 75 #[.int .u16 (X : Nat)] ∧ Blk W h6 75 #[.int .u16 (O : Nat)] ∧ Blk W h7 75 #[.int .u16 (lfN r day X pre : Nat)] ∧ MkI w w7.heap.size Ds W ∧ w7.heap.size ≤ W.heap.size)
      (fun _ _ _ => False) ?hI (fun pre W h => HTB.out.ext h.1.lo) (fun _ _ _ _ _ h _ _ => h) ⟨HS.out, H5.out, H6.out, by rw [lf_nil HX.out.lt]; exact H7.out, HM.out, Nat.le_refl _⟩
      (fun x a' W => ∃ h8, w7.heap.size ≤ h8 ∧ a' = { tmps := #[.pointer (some ⟨b, 0, none⟩), .agg #[.int .u16 (D : Nat), .int .i64 day, .int .i64 de], .pointer (some ⟨g, 0, none⟩), .pointer (some ⟨g + 1, 0, none⟩), .int .u16 0, .pointer (some ⟨h5, 0, none⟩), (.pointer (some ⟨h6, 0, none⟩)), (.pointer (some ⟨h7, 0, none⟩)), (.pointer (some ⟨h8, 0, none⟩)), undef, .pointer (some ⟨b, 0, none⟩), .pointer (some ⟨b, 0, none⟩), .pointer (some ⟨b, 0, none⟩), .pointer (some ⟨b, 0, none⟩), .slice d.A n d.c, .int .i64 n, .int .u16 (P2 : Nat), .int .u16 (P1 : Nat), .pointer (some ⟨b, 0, none⟩), .pointer (some ⟨g + 1, 0, none⟩), .int .u16 (D : Nat), .int .u16 (SE : Nat), .int .u16 (X0 : Nat), (.pointer (some ⟨b, 0, none⟩)), (.pointer (some ⟨g + 1, 1, none⟩)), (.int .i64 day), (.int .u16 (O : Nat)), (.int .u16 (X : Nat)), (.int .u16 (X : Nat)), (.func (.func 66) #[.int .u16 (X : Nat)] #[]), (.int .i64 x), undef, undef, undef, undef, undef, undef, undef, undef, undef, undef, undef, undef, undef, undef, undef, undef, undef, undef, undef, undef, undef, undef, undef, undef, undef, undef, undef, undef, undef, undef, u61, u62, u63, undef, u65], defers := [] } ∧ Blk W h8 3 #[.int .i64 x])
      ?hAx ?hassign ?hbody ?hdone ?hstop
    case hI =>
      rintro pre W W' row ⟨h1, h2, h3, h4, h9, hz⟩ hg hr
      have hr' := fun r e => (hr r e).2
      exact ⟨h1.keptN hg (fun r e => ⟨Nat.le_trans HL7.out (hr r e).1, (hr r e).2⟩), h2.keptN hg hr', h3.keptN hg hr', h4.keptN hg hr', h9.grown hg (fun r e => (hr r e).1), Nat.le_trans hz hg.size⟩
    case hAx =>
      rintro x a' - W W' row ⟨h8, h1, rfl, h2⟩ hg hr
      exact ⟨h8, h1, rfl, h2.keptN hg (fun r e => (hr r e).2)⟩
    case hassign =>
      rintro l pre x W K ⟨h1, h2, h3, h4, h9, hz⟩ hK
      have hb8 : Below W.heap.size W (W.alloc (.cells #[.int .i64 x] 3)) := (Below.refl _ _).alloc (Nat.le_refl _) _
      have HKK := hide (fun a' h => hK a' (W.alloc (.cells #[.int .i64 x] 3)) ((keepsO hb8).from _) ⟨h1.ext hb8, h2.ext hb8, h3.ext hb8, h4.ext hb8, h9.keeps (keepsO hb8), Nat.le_trans hz hb8.size⟩ h)
      have h8 := Blk.new W 3 #[.int .i64 x]
      clear hK
      gi_wp2_with fail
      exact HKK.out _ ⟨W.heap.size, hz, rfl, h8⟩
    case hbody =>
      rintro l pre x a' W hl ⟨rl, hrl⟩ hpre ⟨h1, h2, h3, h4, h9, hz⟩ ⟨h8, hlo8, rfl, hk8⟩
      dsimp only
      have hmem : x ∈ elS X := by
        obtain ⟨t, ht⟩ := hpre
        rw [← ht]
        simp
      have hxn : x < n := by rw [← HN.out]; exact HX.out.n HR.out ((elS_mem HX.out.lt).1 hmem)
      have hxn' : (x : Int) < (n : Int) := by omega
      have hxr : x < r.n := by rw [HN.out]; exact hxn
      have HXR := hide hxr
      obtain ⟨L, hL⟩ : ∃ y, lfN r day X pre = y := ⟨_, rfl⟩
      have hLl : L < 65536 := by rw [← hL]; exact lf_lt _ _ _ _
      have HLL := hide hLl
      have HLI : Hid (liN r day X L x (elS (waS r x)) = lfN r day X (pre ++ [x])) := hide (by rw [← hL]; exact li_all HR.out HX.out.lt hxr pre)
      rw [hL] at h4
      have hwx : waS r x < 65536 := waS_lt r x
      obtain ⟨pb, po, hpw, hpl, hpc⟩ := VR1.at_ HBK.out.sw hxr
      have HWN : Hid (∀ y, y ∈ elS (waS r x) → y < r.n) := hide fun y hy => wa_lt HR.out HXR.out ((elS_mem (waS_lt r x)).1 hy)
      obtain ⟨WA, hWA⟩ : ∃ y, waS r x = y := ⟨_, rfl⟩
      rw [hWA] at HLI hwx hpc HWN
      have HS6 : Hid (∀ W, HpS w W g b D day de → Blk W h8 3 #[.int .i64 x] → (W.cell? ⟨g, 0, none⟩ = some (.pointer (some ⟨b, 0, none⟩)) ∧ W.cell? ⟨b, 4, none⟩ = some (.slice (some ⟨pb, po, none⟩) n n) ∧ W.cell? ⟨h8, 0, none⟩ = some (.int .i64 x) ∧ W.cell? ⟨pb, po + x, none⟩ = some (.int .u16 (WA : Nat)))) := hide fun W h k => ⟨(HSA.out W h).1, by have := (HSA.out W h).2.2.2.2; rw [hpw] at this; exact this, (blk1 k).2.1, (h.lo.cell (p := ⟨pb, po + x, none⟩) hpl).trans hpc⟩
      have hbd := (Below.refl W.heap.size W).drew
      have J1 := hide (h1.ext hbd)
      have J2 := hide (h2.ext hbd)
      have J3 := hide (h3.ext hbd)
      have J4 := hide (h4.ext hbd)
      have J8 := hide (hk8.ext hbd)
      have J9 := hide (h9.keeps (keepsO hbd))
      have JK := hide ((keepsO hbd).from w7.heap.size)
      have hrl2 : W.drew.heap[l]? = some (.loop rl) := hrl
      have hsz : W.drew.heap.size = W.heap.size := rfl
      have hzb : w7.heap.size ≤ W.drew.heap.size := hz
      have h7b : h7 < W.drew.heap.size := h4.lt
      have h8b : h8 < W.drew.heap.size := hk8.lt
      have HZ := hide (And.intro hzb (And.intro h7b (And.intro h8b hsz)))
      have HRL := hide hrl2
      clear hmem hxn hL hpw hpl hpc hWA h1 h2 h3 h4 h9 hk8 hpre hrl hrl2 hbd hsz hzb h7b h8b hst hz
      gi_wp2_with fail
      refine wpIn_only ?_
      refine wpIn_region_J (fun W : World => (W.cell? ⟨g, 0, none⟩ = some (.pointer (some ⟨b, 0, none⟩)) ∧ W.cell? ⟨b, 4, none⟩ = some (.slice (some ⟨pb, po, none⟩) n n) ∧ W.cell? ⟨h8, 0, none⟩ = some (.int .i64 x) ∧ W.cell? ⟨pb, po + x, none⟩ = some (.int .u16 (WA : Nat)))) (by kernel_rfl) ?_
      generalize W.drew = wb at J1 J2 J3 J4 J8 J9 JK HZ HRL ⊢
      refine tk_start [0, 1, 2, 3, 4, 5, 6, 7] ?_
      iterate 8
        refine tk_one (v := ?_) (by first | exact hF | exact wideFn) (HS6.out _ J1.out J8.out) rfl (by kernel_rfl) (by kernel_rfl) (by kernel_rfl) (by kernel_rfl) rfl ?_ (by first | exact fun _ _ _ h => h | exact fun _ _ _ h => hQ2 _ _ _ _ _ h) ?_
        rotate_left
        · intro W hSW
          simp only [glA, glB, glC]
          (try dsimp only at hSW)
          go_simp
          with_reducible rfl
        (try simp only [glA, glB, glC, Act.put, glD, glE, glF])
      refine tk_end ?_
      refine wpAnyJ_done (by kernel_rfl) ?_
      dsimp only [OnlyNormal]
      gi_wp2_with fail
      refine wpIn_rangeFunc_listNa (F := F.inRound l) (l₀ := l) (r₀ := rl) rfl HRL.out (by omega) (gf := 66) (fs := #[.int .u16 (WA : Nat)]) (lb := #[]) rfl (hF _) (enters_of Tryd.func66 (by kernel_rfl) rfl)
        (SeqL.inRound l (all_seq F (9 - 1 - 1 - 1) hF hro (by omega) hwd WA wb hwx)) (Below.refl _ _) (fun _ => rfl)
        (fun pre2 W2 => HpS w W2 g b D day de ∧ Blk W2 h5 75 #[.int .u16 (X : Nat)] ∧ Blk W2 h6 75 #[.int .u16 (O : Nat)] ∧ Blk W2 h7 75 #[.int .u16 (liN r day X L x pre2 : Nat)] ∧ MkI w w7.heap.size Ds W2 ∧ w7.heap.size ≤ W2.heap.size ∧ Blk W2 h8 3 #[.int .i64 x] ∧ KeepsFrom w7.heap.size W W2)
        (fun _ _ _ => False) ?jI (fun pre W h => HTB.out.ext h.1.lo) (fun _ _ _ _ _ h _ _ => h) ⟨J1.out, J2.out, J3.out, J4.out, J9.out, HZ.out.1, J8.out, JK.out⟩
        ?a1 ?jassign ?jbody ?jdone ?jstop
      case jI =>
        rintro pre2 W2 W3 row ⟨i1, i2, i3, i4, i9, iz, i8, ik⟩ hg hr
        have hr' := fun r e => (hr r e).2
        exact ⟨i1.keptN hg (fun r e => ⟨Nat.le_trans HL7.out (Nat.le_trans HZ.out.1 (hr r e).1), (hr r e).2⟩), i2.keptN hg hr', i3.keptN hg hr', i4.keptN hg hr', i9.grown hg (fun r e => Nat.le_trans HZ.out.1 (hr r e).1), Nat.le_trans iz hg.size, i8.keptN hg hr', ownFrom_keepsFrom (β := Unit) (B := w7.heap.size) (w₀ := W) (B' := wb.heap.size) (Nat.le_of_eq HZ.out.2.2.2.symm) () _ _ _ ik hg hr⟩
      case jassign =>
        intro l2 y W2 K hK
        gi_wp2_with fail
        exact hK
      case jbody =>
        rintro l2 pre2 y W2 hl2 hpre2 ⟨i1, i2, i3, i4, i9, iz, i8, ik⟩
        have hmem : y ∈ elS WA := by
          obtain ⟨t, ht⟩ := hpre2
          rw [← ht]
          simp
        have hyr : y < r.n := HWN.out y hmem
        have hyn : (y : Int) < (n : Int) := by have := HN.out; omega
        have hy16 : y < 16 := by have := HN.out; omega
        have hx16 : x < 16 := by have := HN.out; have := HXR.out; omega
        obtain ⟨nb, no, hpn, hnl, hnc⟩ := VR1.at_ HBK.out.sn hyr
        have hand := nd_and HR.out hyr X
        have hVl : seL (r.ac y).nd < 65536 := seL_lt _
        have hob : O.testBit y = decide ((r.ac y).to_ < day) := by rw [← HO.out, ou_bit, decide_eq_true hyr]; rfl
        have HCW : Hid (cwB r day X y = (!O.testBit y && decide (seL (r.ac y).nd &&& X = 0))) := hide (by
          unfold cwB
          rw [hob]
          congr 1
          rw [Bool.eq_iff_iff, decide_eq_true_iff]
          exact hand.symm)
        obtain ⟨V, hV⟩ : ∃ z, seL (r.ac y).nd = z := ⟨_, rfl⟩
        rw [hV] at hVl HCW hnc
        obtain ⟨C, hC⟩ : ∃ z, liN r day X L x pre2 = z := ⟨_, rfl⟩
        have hCl : C < 65536 := by rw [← hC]; exact li_lt HLL.out pre2
        have HCC := hide hC
        rw [hC] at i4
        have HS8 : Hid (∀ W, HpS w W g b D day de → Blk W h5 75 #[.int .u16 (X : Nat)] → Blk W h6 75 #[.int .u16 (O : Nat)] → (W.cell? ⟨h6, 0, none⟩ = some (.int .u16 (O : Nat)) ∧ W.cell? ⟨g, 0, none⟩ = some (.pointer (some ⟨b, 0, none⟩)) ∧ W.cell? ⟨b, 3, none⟩ = some (.slice (some ⟨nb, no, none⟩) n n) ∧ W.cell? ⟨nb, no + y, none⟩ = some (.int .u16 (V : Nat)) ∧ W.cell? ⟨h5, 0, none⟩ = some (.int .u16 (X : Nat)))) := hide fun W h k5 k6 => ⟨(blk1 k6).2.1, (HSA.out W h).1, by have := (HSA.out W h).2.2.2.1; rw [hpn] at this; exact this, (h.lo.cell (p := ⟨nb, no + y, none⟩) hnl).trans hnc, (blk1 k5).2.1⟩
        have Bd := hide (Below.refl W2.heap.size W2).drew
        have I1 := hide (i1.ext Bd.out)
        have I2 := hide (i2.ext Bd.out)
        have I3 := hide (i3.ext Bd.out)
        have I4 := hide (i4.ext Bd.out)
        have I8 := hide (i8.ext Bd.out)
        have I9 := hide (i9.keeps (keepsO Bd.out))
        have IK := hide (ik.trans ((keepsO Bd.out).from _))
        have IZ := hide (Nat.le_trans iz Bd.out.size)
        have HHA := hide (fun W => has_any O y W hou hy16)
        have a1 := and16 hVl HX.out.lt
        obtain ⟨z, hz⟩ : ∃ z, V &&& X = z := ⟨_, rfl⟩
        rw [hz] at a1 HCW
        clear hmem hyr hpn hnl hnc hand hob hV hC hpre2 i1 i2 i3 i4 i9 iz i8 ik hz
        gi_wp2_with fail
        refine wpIn_only ?_
        refine wpIn_region_J (fun W : World => (W.cell? ⟨h6, 0, none⟩ = some (.int .u16 (O : Nat)) ∧ W.cell? ⟨g, 0, none⟩ = some (.pointer (some ⟨b, 0, none⟩)) ∧ W.cell? ⟨b, 3, none⟩ = some (.slice (some ⟨nb, no, none⟩) n n) ∧ W.cell? ⟨nb, no + y, none⟩ = some (.int .u16 (V : Nat)) ∧ W.cell? ⟨h5, 0, none⟩ = some (.int .u16 (X : Nat)))) (by kernel_rfl) ?_
        generalize W2.drew = wc at Bd I1 I2 I3 I4 I8 I9 IK IZ ⊢
        refine wpAnyJ_take 0 (v := ?_) (by first | exact hF | exact wideFn) (HS8.out _ I1.out I2.out I3.out) rfl (by kernel_rfl) (by kernel_rfl) (by kernel_rfl) (by kernel_rfl) rfl ?_ (by first | exact fun _ _ _ h => h | exact fun _ _ _ h => hQ2 _ _ _ _ _ h) ?_
        rotate_left
        · intro W hSW
          simp only [glA, glB, glC]
          (try dsimp only at hSW)
          go_simp
          with_reducible rfl
        (try simp only [glA, glB, glC, Act.put, glD, glE, glF])
        refine wpAnyJ_take 1 (v := ?_) (by first | exact hF | exact wideFn) (HS8.out _ I1.out I2.out I3.out) rfl (by kernel_rfl) (by kernel_rfl) (by kernel_rfl) (by kernel_rfl) rfl ?_ (by first | exact fun _ _ _ h => h | exact fun _ _ _ h => hQ2 _ _ _ _ _ h) ?_
        rotate_left
        · intro W hSW
          simp only [glA, glB, glC]
          (try dsimp only at hSW)
          go_simp
          with_reducible rfl
        (try simp only [glA, glB, glC, Act.put, glD, glE, glF])
        refine wpAnyJ_one 2 rfl (by kernel_rfl) (fun K hK => ?_)
        simp only [glA, glB, glC]
        go_simp
        (with_reducible refine ((CallsIn.inRound l2 (CallsIn.inRound l (hwd (HHA.out wc))))).mono ?_)
        rintro e _ ⟨rfl, rfl⟩
        skip
        dsimp only
        refine hK.out _ _ (fun _ => HS8.out _ I1.out I2.out I3.out) ?_
        clear hK K
        (try simp only [glA, glB, glC, Act.put, glD, glE, glF])
        rcases hot : O.testBit y with _ | _
        · have hcw := HCW.out
          rw [hot] at hcw
          by_cases hz : z = 0
          · have hz1 : ((z : Int) == 0) = true := by rw [hz]; rfl
            rw [decide_eq_true hz] at hcw
            have HYE := hide (li_yes (x := x) HLL.out pre2 hcw)
            rw [HCC.out] at HYE
            clear hcw hot hz
            refine tk_start [3, 4, 5, 6, 7, 8, 9, 10, 11, 12, 13, 14, 15] ?_
            iterate 13
              refine tk_one (v := ?_) (by first | exact hF | exact wideFn) (HS8.out _ I1.out I2.out I3.out) rfl (by kernel_rfl) (by kernel_rfl) (by kernel_rfl) (by kernel_rfl) rfl ?_ (by first | exact fun _ _ _ h => h | exact fun _ _ _ h => hQ2 _ _ _ _ _ h) ?_
              rotate_left
              · intro W hSW
                simp only [glA, glB, glC]
                (try dsimp only at hSW)
                go_simp
                with_reducible rfl
              (try simp only [glA, glB, glC, Act.put, glD, glE, glF])
            refine tk_end ?_
            refine wpAnyJ_done (by kernel_rfl) ?_
            dsimp only [OnlyNormal]
            have Be := hide (Below.refl wc.heap.size wc).drew
            have HS9 : Hid (∀ W, Below wc.heap.size wc W → (W.cell? ⟨h7, 0, none⟩ = some (.int .u16 (C : Nat)) ∧ W.cell? ⟨h8, 0, none⟩ = some (.int .i64 x))) := hide fun W h => ⟨(blk1 (I4.out.ext h)).2.1, (blk1 (I8.out.ext h)).2.1⟩
            have HOF := hide (fun W => of1_any x W hx16)
            have a2 := not16 hCl (p2_lt hx16)
            obtain ⟨PX, hPX⟩ : ∃ z, 2 ^ x = z := ⟨_, rfl⟩
            rw [hPX] at HOF HYE a2
            obtain ⟨C2, hC2⟩ : ∃ z, anN C PX = z := ⟨_, rfl⟩
            rw [hC2] at HYE a2
            clear hPX hC2
            gi_wp2_with fail
            refine wpIn_only ?_
            refine wpIn_region_J (fun W : World => (W.cell? ⟨h7, 0, none⟩ = some (.int .u16 (C : Nat)) ∧ W.cell? ⟨h8, 0, none⟩ = some (.int .i64 x))) (by kernel_rfl) ?_
            generalize wc.drew = we at Be ⊢
            refine wpAnyJ_take 0 (v := ?_) (by first | exact hF | exact wideFn) (HS9.out _ Be.out) rfl (by kernel_rfl) (by kernel_rfl) (by kernel_rfl) (by kernel_rfl) rfl ?_ (by first | exact fun _ _ _ h => h | exact fun _ _ _ h => hQ2 _ _ _ _ _ h) ?_
            rotate_left
            · intro W hSW
              simp only [glA, glB, glC]
              (try dsimp only at hSW)
              go_simp
              with_reducible rfl
            (try simp only [glA, glB, glC, Act.put, glD, glE, glF])
            refine wpAnyJ_take 1 (v := ?_) (by first | exact hF | exact wideFn) (HS9.out _ Be.out) rfl (by kernel_rfl) (by kernel_rfl) (by kernel_rfl) (by kernel_rfl) rfl ?_ (by first | exact fun _ _ _ h => h | exact fun _ _ _ h => hQ2 _ _ _ _ _ h) ?_
            rotate_left
            · intro W hSW
              simp only [glA, glB, glC]
              (try dsimp only at hSW)
              go_simp
              with_reducible rfl
            (try simp only [glA, glB, glC, Act.put, glD, glE, glF])
            have hba : Below we.heap.size we (we.alloc (.cells #[.int .i64 x] 3)) := (Below.refl _ _).alloc (Nat.le_refl _) _
            refine wpAnyJ_one 2 rfl (by kernel_rfl) (fun K hK => ?_)
            simp only [glA, glB, glC]
            go_simp
            refine hK.out _ _ (fun _ => HS9.out _ (Be.out.trans (hba.mono Be.out.size))) ?_
            clear hK K
            (try simp only [glA, glB, glC, Act.put, glD, glE, glF])
            refine wpAnyJ_one 3 rfl (by kernel_rfl) (fun K hK => ?_)
            simp only [glA, glB, glC]
            go_simp
            (with_reducible refine ((CallsIn.inRound l2 (CallsIn.inRound l (hwd (HOF.out we))))).mono ?_)
            rintro e wf ⟨rfl, hf⟩
            have Bf := hide (Be.out.trans (hf.mono Be.out.size))
            dsimp only
            refine hK.out _ _ (fun _ => HS9.out _ Bf.out) ?_
            clear hK K
            (try simp only [glA, glB, glC, Act.put, glD, glE, glF])
            refine wpAnyJ_take 4 (v := ?_) (by first | exact hF | exact wideFn) (HS9.out _ Bf.out) rfl (by kernel_rfl) (by kernel_rfl) (by kernel_rfl) (by kernel_rfl) rfl ?_ (by first | exact fun _ _ _ h => h | exact fun _ _ _ h => hQ2 _ _ _ _ _ h) ?_
            rotate_left
            · intro W hSW
              simp only [glA, glB, glC]
              (try dsimp only at hSW)
              go_simp
              with_reducible rfl
            (try simp only [glA, glB, glC, Act.put, glD, glE, glF])
            have N4 := hide (I4.out.ext Bf.out)
            obtain ⟨f1, c1, c2⟩ := blk1 N4.out
            refine wpAnyJ_one 5 rfl (by kernel_rfl) (fun K hK => ?_)
            simp only [glA, glB, glC]
            go_simp
            refine hK.out _ _ (fun h => absurd h (by rw [show lastOp _ _ _ = true from by kernel_rfl]; simp)) ?_
            clear hK K
            (try simp only [glA, glB, glC, Act.put, glD, glE, glF])
            refine wpAnyJ_done (by kernel_rfl) ?_
            dsimp only [OnlyNormal]
            have hne : ∀ k, k < h7 → k ≠ h7 := fun k h => by omega
            have h70 := HW7.out
            have h77 := H7.out.lt
            have Bg := hide (Bd.out.trans (Bf.out.mono Bd.out.size))
            refine ⟨((keepsO Bg.out).from _).trans ((KeepsOthers.setCell wf _ _).from _), trivial, (I1.out.ext Bf.out).set h70.1 HG7.out _, (I2.out.ext Bf.out).far (p := ⟨h7, 0, none⟩) (by show h5 ≠ h7; omega) _, (I3.out.ext Bf.out).far (p := ⟨h7, 0, none⟩) (by show h6 ≠ h7; omega) _, ?_, (I9.out.keeps (keepsO Bf.out)).keeps (KeepsOthers.setCell wf _ _), (by simpa using Nat.le_trans IZ.out Bf.out.size), (I8.out.ext Bf.out).far (p := ⟨h7, 0, none⟩) (by show h8 ≠ h7; omega) _, (IK.out.trans ((keepsO Bf.out).from _)).trans ((KeepsOthers.setCell wf _ _).from _)⟩
            rw [HYE.out]
            simpa using N4.out.set_ 0 (.int .u16 (C2 : Nat))
          · have hz1 : ((z : Int) == 0) = false := by rw [beq_eq_false_iff_ne]; omega
            rw [decide_eq_false hz] at hcw
            clear hot hz
            refine tk_start [3, 4, 5, 6, 7, 8, 9, 10, 11, 12, 13, 14, 15] ?_
            iterate 13
              refine tk_one (v := ?_) (by first | exact hF | exact wideFn) (HS8.out _ I1.out I2.out I3.out) rfl (by kernel_rfl) (by kernel_rfl) (by kernel_rfl) (by kernel_rfl) rfl ?_ (by first | exact fun _ _ _ h => h | exact fun _ _ _ h => hQ2 _ _ _ _ _ h) ?_
              rotate_left
              · intro W hSW
                simp only [glA, glB, glC]
                (try dsimp only at hSW)
                go_simp
                with_reducible rfl
              (try simp only [glA, glB, glC, Act.put, glD, glE, glF])
            refine tk_end ?_
            refine wpAnyJ_done (by kernel_rfl) ?_
            dsimp only [OnlyNormal]
            have HNO := hide (li_no (L := L) (x := x) pre2 hcw)
            rw [HCC.out] at HNO
            clear hcw
            gi_wp2_with fail
            refine ⟨(keepsO Bd.out).from _, trivial, I1.out, I2.out, I3.out, ?_, I9.out, IZ.out, I8.out, IK.out⟩
            rw [HNO.out]
            exact I4.out
        · have hcw := HCW.out
          rw [hot] at hcw
          clear hot
          refine wpAnyJ_take 3 (v := ?_) (by first | exact hF | exact wideFn) (HS8.out _ I1.out I2.out I3.out) rfl (by kernel_rfl) (by kernel_rfl) (by kernel_rfl) (by kernel_rfl) rfl ?_ (by first | exact fun _ _ _ h => h | exact fun _ _ _ h => hQ2 _ _ _ _ _ h) ?_
          rotate_left
          · intro W hSW
            simp only [glA, glB, glC]
            (try dsimp only at hSW)
            go_simp
            with_reducible rfl
          (try simp only [glA, glB, glC, Act.put, glD, glE, glF])
          refine wpAnyJ_take 4 (v := ?_) (by first | exact hF | exact wideFn) (HS8.out _ I1.out I2.out I3.out) rfl (by kernel_rfl) (by kernel_rfl) (by kernel_rfl) (by kernel_rfl) rfl ?_ (by first | exact fun _ _ _ h => h | exact fun _ _ _ h => hQ2 _ _ _ _ _ h) ?_
          rotate_left
          · intro W hSW
            simp only [glA, glB, glC]
            (try dsimp only at hSW)
            go_simp
            with_reducible rfl
          (try simp only [glA, glB, glC, Act.put, glD, glE, glF])
          refine tk_start [5, 6, 7, 8, 9, 10, 11, 12, 13, 14] ?_
          iterate 10
            refine tk_skip (by first | exact hF | exact wideFn) (HS8.out _ I1.out I2.out I3.out) rfl (by kernel_rfl) (by kernel_rfl) (by kernel_rfl) (by kernel_rfl) rfl (by first | exact fun _ _ _ h => h | exact fun _ _ _ h => hQ2 _ _ _ _ _ h) ?_
            (try simp only [glA, glB, glC, Act.put, glD, glE, glF])
          refine tk_end ?_
          refine wpAnyJ_take 15 (v := ?_) (by first | exact hF | exact wideFn) (HS8.out _ I1.out I2.out I3.out) rfl (by kernel_rfl) (by kernel_rfl) (by kernel_rfl) (by kernel_rfl) rfl ?_ (by first | exact fun _ _ _ h => h | exact fun _ _ _ h => hQ2 _ _ _ _ _ h) ?_
          rotate_left
          · intro W hSW
            simp only [glA, glB, glC]
            (try dsimp only at hSW)
            go_simp
            with_reducible rfl
          (try simp only [glA, glB, glC, Act.put, glD, glE, glF])
          refine wpAnyJ_done (by kernel_rfl) ?_
          dsimp only [OnlyNormal]
          have HNO := hide (li_no (L := L) (x := x) pre2 hcw)
          rw [HCC.out] at HNO
          clear hcw
          gi_wp2_with fail
          refine ⟨(keepsO Bd.out).from _, trivial, I1.out, I2.out, I3.out, ?_, I9.out, IZ.out, I8.out, IK.out⟩
          rw [HNO.out]
          exact I4.out
      case jdone =>
        rintro W2 ⟨i1, i2, i3, i4, i9, iz, i8, ik⟩
        rw [HLI.out] at i4
        exact ⟨ik, trivial, i1, i2, i3, i4, i9, iz⟩
      case jstop =>
        rintro c pre2 W2 hSp h
        exact h.elim
    case hdone =>
      rintro Dm W hD ⟨h1, h2, h3, h4, h9, hz⟩ hK
      rw [lf_all HX.out.lt] at h4
      obtain ⟨Y, hY⟩ : ∃ y, hoS r day X = y := ⟨_, rfl⟩
      rw [hY] at h4
      dsimp only
      have HM2 := hide (h9.more HL7.out hD hK)
      have HY := hide hY
      have H1 := hide h1
      have H2 := hide h2
      have H3 := hide h3
      obtain ⟨f4, c4, e4⟩ := blk1 h4
      obtain ⟨f5, c5, e5⟩ := blk1 h2
      clear hY h1 h2 h3 h4 h9 hz hK hst
      by_cases hyx : Y = X
      · subst hyx
        have HV := hide (HQ.out Y HX.out HY.out)
        have hb : ((Y : Int) == (Y : Int)) = true := by simp
        gi_wp2_with fail
        refine leaves_marks (Dm :: Ds) W H1.out.lo H1.out.lo.size HM2.out.ne (fun D' hD' => ⟨(HM2.out.at_ D' hD').1, (HM2.out.at_ D' hD').2.2⟩) (fun W' hW' => ?_)
        refine ⟨.int .u16 (Y : Nat), by simp [results, Tryd.results52, go_sem], ?_⟩
        rw [HV.out]
        exact ⟨rfl, hW'⟩
      · have hb : ((Y : Int) == (X : Int)) = false := by rw [beq_eq_false_iff_ne]; omega
        have hless := hoS_less (r := r) (day := day) HX.out.lt (by rw [HY.out]; exact hyx)
        rw [HY.out] at hless
        have HLS := hide hless
        clear hyx hless
        gi_wp2_with fail
        have h5k : Blk (W.setCell ⟨h5, 0, none⟩ (.int .u16 (Y : Nat))) h5 75 #[.int .u16 (Y : Nat)] := by simpa using H2.out.set_ 0 (.int .u16 (Y : Nat))
        refine ⟨⟨_, _, _, _, _, _, _, _, Dm :: Ds, Y, rfl, H1.out.set HLO.out.1 HLO.out.2.1 _, h5k, H3.out.far (p := ⟨h5, 0, none⟩) (by show h6 ≠ h5; have := HLO.out.2.2; omega) _, by simpa using HM2.out.keeps (KeepsOthers.setCell W ⟨h5, 0, none⟩ (.int .u16 (Y : Nat))), by rw [← HY.out]; exact HX.out.next⟩, ?_⟩
        show hpM h5 _ < hpM h5 _
        rw [hpM_eq h5k, HMU.out]
        exact HLS.out
    case hstop =>
      rintro Dm c pre W hD hSp h hK
      exact h.elim
  refine wpIn_only ?_
  refine wpIn_region_J (fun W : World => (W.cell? ⟨g, 0, none⟩ = some (.pointer (some ⟨b, 0, none⟩)) ∧ (W.cell? ⟨g + 1, 0, none⟩ = some (.int .u16 (D : Nat)) ∧ W.cell? ⟨g + 1, 1, none⟩ = some (.int .i64 day)) ∧ (W.cell? ⟨b, 0, none⟩ = some (.slice d.A n d.c) ∧ W.cell? ⟨b, 3, none⟩ = some (.slice q.pn n n) ∧ W.cell? ⟨b, 4, none⟩ = some (.slice q.pw n n)))) (by kernel_rfl) ?_
  replace HS1 := hide (HS1.out.ext (Below.refl (((w.alloc (.cells #[.pointer (some ⟨b, 0, none⟩)] 73)).alloc (.cells #[.int .u16 (D : Nat), .int .i64 day, .int .i64 de] 77))).heap.size ((w.alloc (.cells #[.pointer (some ⟨b, 0, none⟩)] 73)).alloc (.cells #[.int .u16 (D : Nat), .int .i64 day, .int .i64 de] 77))).drew)
  generalize (((w.alloc (.cells #[.pointer (some ⟨b, 0, none⟩)] 73)).alloc (.cells #[.int .u16 (D : Nat), .int .i64 day, .int .i64 de] 77))).drew = wd at HS1 ⊢
  refine tk_start [0, 1, 2, 3, 4, 5, 6, 7, 8, 9, 10] ?_
  iterate 11
    refine tk_one (v := ?_) (by first | exact hF | exact wideFn) (HSA.out _ HS1.out) rfl (by kernel_rfl) (by kernel_rfl) (by kernel_rfl) (by kernel_rfl) rfl ?_ (by first | exact fun _ _ _ h => h | exact fun _ _ _ h => hQ2 _ _ _ _ _ h) ?_
    rotate_left
    · intro W hSW
      simp only [glA, glB, glC]
      (try dsimp only at hSW)
      go_simp
      with_reducible rfl
    (try simp only [glA, glB, glC, Act.put, glD, glE, glF])
  refine tk_end ?_
  refine wpAnyJ_two 11 13 rfl rfl (by kernel_rfl) (fun K hK => ?_) (fun K hK => ?_)
  · simp only [glA, glB, glC]
    go_simp
    (with_reducible refine ((hwd (HSE.out wd (HBK.out.ext HS1.out.lo)))).mono ?_)
    rintro e w2 ⟨rfl, h2⟩
    have HS2 := hide (HS1.out.ext h2)
    dsimp only
    refine hK.out _ _ (fun _ => HSA.out _ HS2.out) ?_
    clear hK K
    (try simp only [glA, glB, glC, Act.put, glD, glE, glF])
    refine wpAnyJ_take 12 (v := ?_) (by first | exact hF | exact wideFn) (HSA.out _ HS2.out) rfl (by kernel_rfl) (by kernel_rfl) (by kernel_rfl) (by kernel_rfl) rfl ?_ (by first | exact fun _ _ _ h => h | exact fun _ _ _ h => hQ2 _ _ _ _ _ h) ?_
    rotate_left
    · intro W hSW
      simp only [glA, glB, glC]
      (try dsimp only at hSW)
      go_simp
      with_reducible rfl
    (try simp only [glA, glB, glC, Act.put, glD, glE, glF])
    have hb3 : Below w2.heap.size w2 (w2.alloc (.cells #[.int .u16 0] 75)) := (Below.refl _ _).alloc (Nat.le_refl _) _
    have k5 := Blk.new w2 75 #[.int .u16 0]
    have HS3 := hide (HS2.out.ext hb3)
    refine wpAnyJ_one 13 rfl (by kernel_rfl) (fun K hK => ?_)
    simp only [glA, glB, glC]
    go_simp
    refine hK.out _ _ (fun _ => HSA.out _ HS3.out) ?_
    clear hK K
    (try simp only [glA, glB, glC, Act.put, glD, glE, glF])
    obtain ⟨f1, c1, c2⟩ := blk1 k5
    refine wpAnyJ_one 14 rfl (by kernel_rfl) (fun K hK => ?_)
    simp only [glA, glB, glC]
    go_simp
    refine hK.out _ _ (fun h => absurd h (by rw [show lastOp _ _ _ = true from by kernel_rfl]; simp)) ?_
    clear hK K
    (try simp only [glA, glB, glC, Act.put, glD, glE, glF])
    refine wpAnyJ_done (by kernel_rfl) ?_
    dsimp only [OnlyNormal]
    have hlo : w.heap.size ≤ w2.heap.size ∧ g + 1 < w2.heap.size := ⟨HS2.out.lo.size, HS2.out.k3.lt⟩
    exact REST1.out _ _ hlo.1 hlo.2 (HS2.out.ext ((Below.refl _ _).alloc (Nat.le_refl _) _)) (Blk.new w2 75 #[.int .u16 (X0 : Nat)])
  · have hb3 : Below wd.heap.size wd (wd.alloc (.cells #[.int .u16 0] 75)) := (Below.refl _ _).alloc (Nat.le_refl _) _
    have k5 := Blk.new wd 75 #[.int .u16 0]
    have HS3 := hide (HS1.out.ext hb3)
    have hlo : w.heap.size ≤ wd.heap.size ∧ g + 1 < wd.heap.size := ⟨HS1.out.lo.size, HS1.out.k3.lt⟩
    simp only [glA, glB, glC]
    go_simp
    refine hK.out _ _ (fun _ => HSA.out _ HS3.out) ?_
    clear hK K
    (try simp only [glA, glB, glC, Act.put, glD, glE, glF])
    refine wpAnyJ_one 11 rfl (by kernel_rfl) (fun K hK => ?_)
    simp only [glA, glB, glC]
    go_simp
    (with_reducible refine ((hwd (HSE.out _ (HBK.out.ext HS3.out.lo)))).mono ?_)
    rintro e w2 ⟨rfl, h2⟩
    have HS2 := hide (HS3.out.ext h2)
    dsimp only
    refine hK.out _ _ (fun _ => HSA.out _ HS2.out) ?_
    clear hK K
    (try simp only [glA, glB, glC, Act.put, glD, glE, glF])
    refine wpAnyJ_take 12 (v := ?_) (by first | exact hF | exact wideFn) (HSA.out _ HS2.out) rfl (by kernel_rfl) (by kernel_rfl) (by kernel_rfl) (by kernel_rfl) rfl ?_ (by first | exact fun _ _ _ h => h | exact fun _ _ _ h => hQ2 _ _ _ _ _ h) ?_
    rotate_left
    · intro W hSW
      simp only [glA, glB, glC]
      (try dsimp only at hSW)
      go_simp
      with_reducible rfl
    (try simp only [glA, glB, glC, Act.put, glD, glE, glF])
    replace k5 := k5.ext h2
    obtain ⟨f1, c1, c2⟩ := blk1 k5
    refine wpAnyJ_one 14 rfl (by kernel_rfl) (fun K hK => ?_)
    simp only [glA, glB, glC]
    go_simp
    refine hK.out _ _ (fun h => absurd h (by rw [show lastOp _ _ _ = true from by kernel_rfl]; simp)) ?_
    clear hK K
    (try simp only [glA, glB, glC, Act.put, glD, glE, glF])
    refine wpAnyJ_done (by kernel_rfl) ?_
    dsimp only [OnlyNormal]
    exact REST1.out _ _ hlo.1 hlo.2 (HS2.out.set hlo.1 hlo.2 _) (by simpa using k5.set_ 0 (.int .u16 (X0 : Nat)))
end Go.Proofs.YtcgdalabenflmaaDoor
/- Rite: Hopeless, walked. -/
namespace Go.Proofs.YtcgdalabenflmaaDoor
open Go Go.RowKit Go.Shelf
set_option maxHeartbeats 8000000
set_option maxRecDepth 100000
theorem hopeless_rite (d : Rad) (r : Rit) (A : Option Addr) (c : Nat) (l : List (Int × Int)) (day : Int) (w : World) (hd : RtR w d r) (hz : RtZ r) (hl : l.length ≤ 1000000) (hD : DsR w A l) (hT : TB w) :
    Calls Tryd.prog 22 #[.agg #[.slice d.A r.n d.c, .int .i64 r.last, .int .i64 r.toil], .slice A l.length c, .int .i64 day] w (AskPost w r l day (if riB r = true then hpS r ((folF r m0 l 0).1.on day) else 0)) := by
  have HAS : Hid (∀ W, RtR W d r → DsR W A l → TB W → Calls Tryd.prog 48 #[.agg #[.slice d.A r.n d.c, .int .i64 r.last, .int .i64 r.toil], .slice A l.length c, .int .i64 day, .func (.func 52) #[] #[]] W (AskPost W r l day (if riB r = true then hpS r ((folF r m0 l 0).1.on day) else 0))) := hide fun W h1 h2 h3 =>
    asked_any _ _ (by split; exact hp_lt _ _; decide) d r A c l day W h1 hz hl h2 h3 (fun _ _ => rfl) (fun hr W b q hB hT => by rw [if_pos hr]; exact hopeless_any b d q r _ W (riB_ok hr) (mo_dlt hr l day) hB hT)
  have HB1 : Hid (Below w.heap.size w (w.alloc (.cells #[.slice d.A r.n d.c, .int .i64 r.last, .int .i64 r.toil] 24))) := hide ((Below.refl _ _).alloc (Nat.le_refl _) _)
  have G1 := hide (Blk.new w 24 #[.slice d.A r.n d.c, .int .i64 r.last, .int .i64 r.toil])
  have HRT := hide (hd.ext HB1.out)
  have HD := hide (hD.ext HB1.out)
  have HTB := hide (hT.ext HB1.out)
  have HO := hide (HAS.out _ HRT.out HD.out HTB.out)
  clear hd hz hD hl hT HAS
  obtain ⟨S, hS⟩ : ∃ x, (if riB r = true then hpS r ((folF r m0 l 0).1.on day) else 0) = x := ⟨_, rfl⟩
  rw [hS] at HO ⊢
  clear hS
  obtain ⟨ec, hec⟩ : ∃ x, frC r l day = x := ⟨_, rfl⟩
  have HEC := hide hec
  clear hec
  go_enter Tryd.func22, Tryd.ntmps22
  go_upto_region 1 with fail
  generalize w.alloc (.cells #[.slice d.A r.n d.c, .int .i64 r.last, .int .i64 r.toil] 24) = w1 at HB1 G1 HO HD HRT HTB ⊢
  generalize w.heap.size = G at G1 ⊢
  obtain ⟨g9, g0, g1, g2, -⟩ := blk3 G1.out
  go_wp2_with fail
  refine HO.out.mono ?_
  rintro e w2 ⟨⟨hc, rfl⟩ | ⟨hc, hb, v, rfl, hv⟩, hbl⟩
  · have HBL := hide (HB1.out.trans (hbl.mono HB1.out.size))
    rw [HEC.out] at hc ⊢
    have HCH := hide hc
    clear hc hbl g9 g0 g1 g2 HO HD
    go_wp2_with fail
    go_ret2
    exact ⟨.inl ⟨by rw [HEC.out]; exact HCH.out, by rw [HEC.out]; rfl⟩, HBL.out⟩
  · have HBL := hide (HB1.out.trans (hbl.mono HB1.out.size))
    have HV := hide (And.intro hc (And.intro hb (OwnJ.low3 hv HB1.out.size)))
    clear hc hb hv hbl g9 g0 g1 g2 HO HD
    go_wp2_with fail
    go_ret2
    exact ⟨.inr ⟨HV.out.1, HV.out.2.1, v, rfl, HV.out.2.2⟩, HBL.out⟩
end Go.Proofs.YtcgdalabenflmaaDoor
/- Rite, plain: the document's examples. -/
namespace Go.Proofs.YtcgdalabenflmaaDoor
open Go Go.RowKit
set_option maxRecDepth 100000
theorem fi_ri (t : Int) (h : t = 1 ∨ t = 2) : riB (fiR t) = true := by
  rcases h with rfl | rfl <;> kernel_rfl
theorem fi_f0 : frC (fiR 1) [] 0 = 0 := by kernel_rfl
theorem fi_f3 : frC (fiR 2) [] 3 = 0 := by kernel_rfl
theorem fi_f13 : frC (fiR 1) [] 3 = 0 := by kernel_rfl
theorem fi_f4 : frC (fiR 1) [] 4 = 0 := by kernel_rfl
theorem fi_a0 : aftC (fiR 1) [] = 0 := by kernel_rfl
theorem fi_a2 : aftC (fiR 1) [(0, 0), (1, 1)] = 0 := by kernel_rfl
theorem fi_w0 : fwN (fiR 1) ((folF (fiR 1) m0 [] 0).1.on 0) = 2 := by kernel_rfl
theorem fi_w3 : fwN (fiR 2) ((folF (fiR 2) m0 [] 0).1.on 3) = 2 := by kernel_rfl
theorem fi_w13 : fwN (fiR 1) ((folF (fiR 1) m0 [] 0).1.on 3) = 11 := by kernel_rfl
theorem fi_w12 : fwN (fiR 1) ((folF (fiR 1) m0 [] 0).1.on 2) = 2 := by kernel_rfl
theorem fi_w14 : fwN (fiR 1) ((folF (fiR 1) m0 [] 0).1.on 4) = 11 := by kernel_rfl
theorem fi_w15 : fwN (fiR 1) ((folF (fiR 1) m0 [] 0).1.on 5) = 11 := by kernel_rfl
theorem fi_l0 : rpL (fiR 1) ((folF (fiR 1) m0 [] 0).1.on 0) 2 = [(0, 0), (1, 1)] := by kernel_rfl
theorem fi_l3 : rpL (fiR 2) ((folF (fiR 2) m0 [] 0).1.on 3) 2 = [(3, 2), (3, 1)] := by kernel_rfl
theorem fi_j : (folF (fiR 1) m0 [(1, 1)] 0).2 = (0, 4) := by kernel_rfl
theorem fi_h : elS (hpS (fiR 1) ((folF (fiR 1) m0 [] 0).1.on 4)) = [1] := by kernel_rfl
theorem fi_lat {x : Int} (h : LatR (fiR 1) (folF (fiR 1) m0 [] 0).1 x) : x = 2 := by
  obtain ⟨⟨h1, h2, h3⟩, h4⟩ := h
  have hd : (folF (fiR 1) m0 [] 0).1.day = 0 := rfl
  have hl : (fiR 1).last = 5 := rfl
  rw [hd] at h1
  rw [hl] at h2 h4
  by_cases e : x < 2
  · exact absurd (by rw [fi_w12]; decide) (h4 2 e (by decide))
  · rcases (show x = 2 ∨ x = 3 ∨ x = 4 ∨ x = 5 by omega) with rfl | rfl | rfl | rfl
    · rfl
    · rw [fi_w13] at h3; exact absurd h3 (by decide)
    · rw [fi_w14] at h3; exact absurd h3 (by decide)
    · rw [fi_w15] at h3; exact absurd h3 (by decide)
theorem fi_t : wrT (fiR 1) [(0, 0), (1, 1)] = [48, 32, 107, 105, 110, 100, 108, 101, 10, 49, 32, 111, 102, 102, 101, 114, 10] := by
  have e0 : Lib.decDigits (0 : Int).toNat = [48] := by rw [Lib.decDigits, dif_pos (by decide)]; rfl
  have e1 : Lib.decDigits (1 : Int).toNat = [49] := by rw [Lib.decDigits, dif_pos (by decide)]; rfl
  unfold wrT wrC
  simp only [List.flatMap_cons, List.flatMap_nil, e0, e1]
  rfl
theorem fi_z (t : Int) : RtZ (fiR t) := by
  have hn : (fiR t).n = 3 := rfl
  have h : ∀ k, k < (fiR t).n → k = 0 ∨ k = 1 ∨ k = 2 := fun k hk => by omega
  refine ⟨by rw [hn]; decide, fun k hk => ?_, fun k hk => ?_, fun k hk => ?_⟩ <;> rw [show (fiR t).ac k = (fiR 0).ac k from rfl] <;> rcases h k hk with rfl | rfl | rfl <;> decide
end Go.Proofs.YtcgdalabenflmaaDoor
/- Rite: known, walked. -/
namespace Go.Proofs.YtcgdalabenflmaaDoor
open Go Go.RowKit Go.Shelf
set_option maxHeartbeats 8000000
set_option maxRecDepth 100000
theorem kn_fire (t : Int) (w : World) : Calls Tryd.prog 36 #[.int .i64 t] w fun e w' => ∃ d, e = .returned (.agg #[.slice d.A 3 d.c, .int .i64 5, .int .i64 t]) ∧ RtR w' d (fiR t) ∧ Below w.heap.size w w' := fire_any t w
theorem nil_ds (w : World) : DsR w none [] := fun h => absurd h (by simp)
theorem kn_rep (t day : Int) (l : List (Int × Int)) (d : Rad) (w : World) (hd : RtR w d (fiR t)) (hT : TB w) (hr : riB (fiR t) = true) (h0 : frC (fiR t) [] day = 0) (h1 : fwN (fiR t) ((folF (fiR t) m0 [] 0).1.on day) = l.length) (h2 : l.length < 11) (h3 : rpL (fiR t) ((folF (fiR t) m0 [] 0).1.on day) l.length = l) :
    Calls Tryd.prog 11 #[.agg #[.slice d.A 3 d.c, .int .i64 5, .int .i64 t], .slice none 0 0, .int .i64 day] w fun e w' => ∃ A c, e = .returned (.tuple #[.slice A l.length c, .int .i64 0]) ∧ OwnD w' w.heap.size (.slice A l.length c) l ∧ Below w.heap.size w w' := by
  refine (repair_rite d (fiR t) none 0 [] day w hd (fi_z t) (by simp) (nil_ds w) hT).mono ?_
  rintro e w' ⟨⟨hc, -⟩ | ⟨-, -, ⟨hw, -⟩ | ⟨-, v, rfl, ho⟩⟩, hb⟩
  · exact absurd h0 hc
  · omega
  · rw [h1, h3] at ho
    obtain ⟨A, c, rfl⟩ := own_shape ho
    exact ⟨A, c, rfl, ho, hb⟩
theorem kn_none (d : Rad) (w : World) (hd : RtR w d (fiR 1)) (hT : TB w) :
    Calls Tryd.prog 11 #[.agg #[.slice d.A 3 d.c, .int .i64 5, .int .i64 1], .slice none 0 0, .int .i64 3] w fun e w' => e = .returned (.tuple #[.slice none 0 0, .int .i64 7]) ∧ Below w.heap.size w w' := by
  refine (repair_rite d (fiR 1) none 0 [] 3 w hd (fi_z 1) (by simp) (nil_ds w) hT).mono ?_
  rintro e w' ⟨⟨hc, -⟩ | ⟨-, -, ⟨hw, rfl⟩ | ⟨hw, -⟩⟩, hb⟩
  · exact absurd fi_f13 hc
  · exact ⟨rfl, hb⟩
  · rw [fi_w13] at hw; exact absurd hw (by decide)
theorem kn_lat (d : Rad) (w : World) (hd : RtR w d (fiR 1)) (hT : TB w) :
    Calls Tryd.prog 14 #[.agg #[.slice d.A 3 d.c, .int .i64 5, .int .i64 1], .slice none 0 0] w fun e w' => e = .returned (.tuple #[.int .i64 2, .int .i64 0]) ∧ Below w.heap.size w w' := by
  refine (latest_rite d (fiR 1) none 0 [] w hd (fi_z 1) (by simp) (nil_ds w) hT).mono ?_
  rintro e w' ⟨⟨hc, -⟩ | ⟨-, -, ⟨x, hx, rfl⟩ | ⟨hn, -⟩⟩, hb⟩
  · exact absurd fi_a0 hc
  · rw [fi_lat hx]; exact ⟨rfl, hb⟩
  · exact absurd (by rw [fi_w12]; decide) (hn 2 (by decide) (by decide))
theorem kn_hop (d : Rad) (w : World) (hd : RtR w d (fiR 1)) (hT : TB w) :
    Calls Tryd.prog 22 #[.agg #[.slice d.A 3 d.c, .int .i64 5, .int .i64 1], .slice none 0 0, .int .i64 4] w fun e w' => ∃ A c, e = .returned (.tuple #[.slice A 1 c, .int .i64 0]) ∧ OwnJ w' w.heap.size (.slice A 1 c) [1] ∧ Below w.heap.size w w' := by
  refine (hopeless_rite d (fiR 1) none 0 [] 4 w hd (fi_z 1) (by simp) (nil_ds w) hT).mono ?_
  rintro e w' ⟨⟨hc, -⟩ | ⟨-, -, v, rfl, ho⟩, hb⟩
  · exact absurd fi_f4 hc
  · rw [if_pos (fi_ri 1 (.inl rfl)), fi_h] at ho
    obtain ⟨A, c, rfl⟩ := own_shape ho
    exact ⟨A, c, rfl, ho, hb⟩
theorem kn_jud (d : Rad) (A : Option Addr) (c : Nat) (w : World) (hd : RtR w d (fiR 1)) (hD : DsR w A [(1, 1)]) :
    Calls Tryd.prog 30 #[.agg #[.slice d.A 3 d.c, .int .i64 5, .int .i64 1], .slice A 1 c] w fun e w' => e = .returned (.tuple #[.int .i64 0, .int .i64 4, .int .i64 0]) ∧ Below w.heap.size w w' := by
  refine (judge_any d (fiR 1) A c [(1, 1)] w hd (fi_z 1) (by simp) hD).mono ?_
  rintro e w' ⟨rfl, hb⟩
  rw [if_pos (fi_ri 1 (.inl rfl)), if_pos (fi_ri 1 (.inl rfl)), if_pos (fi_ri 1 (.inl rfl)), fi_j]
  exact ⟨rfl, hb⟩
theorem kn_wri (d : Rad) (A : Option Addr) (c : Nat) (w : World) (hd : RtR w d (fiR 1)) (hD : DsR w A [(0, 0), (1, 1)]) :
    Calls Tryd.prog 37 #[.agg #[.slice d.A 3 d.c, .int .i64 5, .int .i64 1], .slice A 2 c] w fun e w' => e = .returned (.tuple #[.string ⟨#[48, 32, 107, 105, 110, 100, 108, 101, 10, 49, 32, 111, 102, 102, 101, 114, 10]⟩, .int .i64 0]) ∧ Below w.heap.size w w' := by
  refine (write_rite d (fiR 1) A c [(0, 0), (1, 1)] w hd (fi_z 1) (by simp) hD).mono ?_
  rintro e w' ⟨⟨hc, -⟩ | ⟨-, -, rfl⟩, hb⟩
  · exact absurd fi_a2 hc
  · rw [fi_t]; exact ⟨rfl, hb⟩
theorem blk_ds (w : World) (l : List (Int × Int)) : DsR (w.alloc (.cells (cellsD l).toArray 60)) (some ⟨w.heap.size, 0, none⟩) l := fun _ => by
  refine ⟨w.heap.size, 0, rfl, by simp, fun k i hk hi => ?_⟩
  have h := (Blk.new w 60 (cellsD l).toArray).cell (k * 2 + i)
  rw [show 0 + k * 2 + i = k * 2 + i by omega, h]
  simpa using cellsD_at l k i hk hi
theorem known_any (w : World) (hT : TB w) : Calls Tryd.prog 10 #[] w fun e w' => e = .returned (.bool true) ∧ Below w.heap.size w w' := by
  have HT := hide hT
  go_enter Tryd.func10, Tryd.ntmps10
  go_wp2_with fail
  refine (kn_fire 1 w).mono ?_
  rintro e w1 ⟨d1, rfl, hr1, hb1⟩
  have H1 := hide (kn_rep 1 0 [(0, 0), (1, 1)] d1 w1 hr1 (HT.out.ext hb1) (fi_ri 1 (.inl rfl)) fi_f0 fi_w0 (by decide) fi_l0)
  have B1 := hide hb1
  clear hr1 hb1
  go_wp2_with fail
  refine H1.out.mono ?_
  rintro e w2 ⟨A2, c2, rfl, ho2, hb2⟩
  have O2 := hide ho2.dsr.2
  have B2 := hide (B1.out.trans (hb2.mono B1.out.size))
  clear ho2 hb2 H1 B1
  go_wp2_with fail
  refine (kn_fire 2 w2).mono ?_
  rintro e w3 ⟨d3, rfl, hr3, hb3⟩
  have H3 := hide (kn_rep 2 3 [(3, 2), (3, 1)] d3 w3 hr3 (HT.out.ext (B2.out.trans (hb3.mono B2.out.size))) (fi_ri 2 (.inr rfl)) fi_f3 fi_w3 (by decide) fi_l3)
  have B3 := hide (B2.out.trans (hb3.mono B2.out.size))
  replace O2 := hide (O2.out.ext hb3)
  clear hr3 hb3 B2
  go_wp2_with fail
  refine H3.out.mono ?_
  rintro e w4 ⟨A4, c4, rfl, ho4, hb4⟩
  have O4 := hide ho4.dsr.2
  replace O2 := hide (O2.out.ext hb4)
  have B4 := hide (B3.out.trans (hb4.mono B3.out.size))
  clear ho4 hb4 H3 B3
  go_wp2_with fail
  refine (kn_fire 1 w4).mono ?_
  rintro e w5 ⟨d5, rfl, hr5, hb5⟩
  have H5 := hide (kn_none d5 w5 hr5 (HT.out.ext (B4.out.trans (hb5.mono B4.out.size))))
  have B5 := hide (B4.out.trans (hb5.mono B4.out.size))
  replace O2 := hide (O2.out.ext hb5)
  replace O4 := hide (O4.out.ext hb5)
  clear hr5 hb5 B4
  go_wp2_with fail
  refine H5.out.mono ?_
  rintro e w6 ⟨rfl, hb6⟩
  have B6 := hide (B5.out.trans (hb6.mono B5.out.size))
  replace O2 := hide (O2.out.ext hb6)
  replace O4 := hide (O4.out.ext hb6)
  clear hb6 H5 B5
  go_wp2_with fail
  refine (kn_fire 1 w6).mono ?_
  rintro e w7 ⟨d7, rfl, hr7, hb7⟩
  have H7 := hide (kn_lat d7 w7 hr7 (HT.out.ext (B6.out.trans (hb7.mono B6.out.size))))
  have B7 := hide (B6.out.trans (hb7.mono B6.out.size))
  replace O2 := hide (O2.out.ext hb7)
  replace O4 := hide (O4.out.ext hb7)
  clear hr7 hb7 B6
  go_wp2_with fail
  refine H7.out.mono ?_
  rintro e w8 ⟨rfl, hb8⟩
  have B8 := hide (B7.out.trans (hb8.mono B7.out.size))
  replace O2 := hide (O2.out.ext hb8)
  replace O4 := hide (O4.out.ext hb8)
  clear hb8 H7 B7
  go_wp2_with fail
  refine (kn_fire 1 w8).mono ?_
  rintro e w9 ⟨d9, rfl, hr9, hb9⟩
  have B9 := hide (B8.out.trans (hb9.mono B8.out.size))
  replace O2 := hide (O2.out.ext hb9)
  replace O4 := hide (O4.out.ext hb9)
  have R9 := hide hr9
  clear hr9 hb9 B8
  have hba : Below w9.heap.size w9 (w9.alloc (.cells #[.int .i64 1, .int .i64 1] 60)) := (Below.refl _ _).alloc (Nat.le_refl _) _
  have H9 := hide (kn_jud d9 (some ⟨w9.heap.size, 0, none⟩) 1 _ (R9.out.ext hba) (blk_ds w9 [(1, 1)]))
  have Ba := hide (B9.out.trans (hba.mono B9.out.size))
  replace O2 := hide (O2.out.ext hba)
  replace O4 := hide (O4.out.ext hba)
  clear hba R9 B9
  go_wp2_with fail
  refine H9.out.mono ?_
  rintro e wb ⟨rfl, hbb⟩
  have Bb := hide (Ba.out.trans (hbb.mono Ba.out.size))
  replace O2 := hide (O2.out.ext hbb)
  replace O4 := hide (O4.out.ext hbb)
  clear hbb H9 Ba
  go_wp2_with fail
  refine (kn_fire 1 wb).mono ?_
  rintro e wc ⟨dc, rfl, hrc, hbc⟩
  have Hc := hide (kn_hop dc wc hrc (HT.out.ext (Bb.out.trans (hbc.mono Bb.out.size))))
  have Bc := hide (Bb.out.trans (hbc.mono Bb.out.size))
  replace O2 := hide (O2.out.ext hbc)
  replace O4 := hide (O4.out.ext hbc)
  clear hrc hbc Bb
  go_wp2_with fail
  refine Hc.out.mono ?_
  rintro e wd ⟨A5, c5, rfl, ho5, hbd⟩
  have O5 := hide ho5.li.2
  have Bd := hide (Bc.out.trans (hbd.mono Bc.out.size))
  replace O2 := hide (O2.out.ext hbd)
  replace O4 := hide (O4.out.ext hbd)
  clear ho5 hbd Hc Bc
  go_wp2_with fail
  refine (kn_fire 1 wd).mono ?_
  rintro e we ⟨de, rfl, hre, hbe⟩
  have hba : Below we.heap.size we (we.alloc (.cells #[.int .i64 0, .int .i64 0, .int .i64 1, .int .i64 1] 60)) := (Below.refl _ _).alloc (Nat.le_refl _) _
  have He := hide (kn_wri de (some ⟨we.heap.size, 0, none⟩) 2 _ (hre.ext hba) (blk_ds we [(0, 0), (1, 1)]))
  have Be := hide ((Bd.out.trans (hbe.mono Bd.out.size)).trans (hba.mono (Nat.le_trans Bd.out.size hbe.size)))
  replace O2 := hide ((O2.out.ext hbe).ext hba)
  replace O4 := hide ((O4.out.ext hbe).ext hba)
  replace O5 : Hid (LI (we.alloc (.cells #[.int .i64 0, .int .i64 0, .int .i64 1, .int .i64 1] 60)) _ A5 [1]) := hide (((ER.below O5.out hbe (Nat.le_refl _)).more hbe.size).below hba (Nat.le_refl _))
  clear hre hba hbe Bd
  go_wp2_with fail
  refine He.out.mono ?_
  rintro e wf ⟨rfl, hbf⟩
  have Bf := hide (Be.out.trans (hbf.mono Be.out.size))
  replace O2 := hide (O2.out.ext hbf)
  replace O4 := hide (O4.out.ext hbf)
  replace O5 := hide (ER.below (ER.more O5.out (show we.heap.size ≤ (we.alloc (.cells #[.int .i64 0, .int .i64 0, .int .i64 1, .int .i64 1] 60)).heap.size by simp)) hbf (Nat.le_refl _))
  clear hbf He Be
  obtain ⟨x2, y2, rfl, -, p2, p3⟩ := O2.out.at_ (k := 1) (by decide) rfl
  obtain ⟨x4, y4, rfl, -, p4, p5⟩ := O4.out.at_ (k := 0) (by decide) rfl
  obtain ⟨x5, y5, rfl, -, p6⟩ := VR1.at_ O5.out (k := 0) (by decide)
  replace p2 : wf.cell? ⟨x2, y2 + 2, none⟩ = some (.int .i64 1) := p2
  replace p3 : wf.cell? ⟨x2, y2 + 2 + 1, none⟩ = some (.int .i64 1) := p3
  replace p4 : wf.cell? ⟨x4, y4, none⟩ = some (.int .i64 3) := p4
  replace p5 : wf.cell? ⟨x4, y4 + 1, none⟩ = some (.int .i64 2) := p5
  replace p6 : wf.cell? ⟨x5, y5, none⟩ = some (.int .i64 1) := p6
  go_wp2_with fail
  go_ret
  exact ⟨rfl, Bf.out⟩
end Go.Proofs.YtcgdalabenflmaaDoor
/- Rite: the laws' helpers: right, good. -/
namespace Go.Proofs.YtcgdalabenflmaaDoor
open Go Go.RowKit Go.Shelf
set_option maxHeartbeats 8000000
set_option maxRecDepth 100000
theorem fol_at {r : Rit} : ∀ (l : List (Int × Int)) (m : Mom) (i : Nat), (folF r m l i).2.2 = 0 → (folF r m l i).2.1 = -1
  | [], _, _, _ => rfl
  | x :: l, m, i, h => by
    unfold folF at h ⊢
    split at h
    · cases h
    · rename_i h1
      rw [if_neg h1]
      split at h
      · rename_i h2; exact absurd h h2
      · rename_i h2
        rw [if_neg h2]
        exact fol_at l _ _ h
/-- whether a course keeps all rules -/
def rgB (r : Rit) (l : List (Int × Int)) : Bool := decide (aftC r l = 0)
theorem rg_yes {r : Rit} {l : List (Int × Int)} (h : rgB r l = true) : riB r = true ∧ (folF r m0 l 0).2.2 = 0 ∧ aftC r l = 0 :=
  have h1 : aftC r l = 0 := of_decide_eq_true h
  ⟨(aftC_ok h1).1, (aftC_ok h1).2, h1⟩
theorem right_any (d : Rad) (r : Rit) (A : Option Addr) (c : Nat) (l : List (Int × Int)) (w : World) (hd : RtR w d r) (hz : RtZ r) (hl : l.length ≤ 1000000) (hD : DsR w A l) :
    Calls Tryd.prog 28 #[.agg #[.slice d.A r.n d.c, .int .i64 r.last, .int .i64 r.toil], .slice A l.length c] w fun e w' => e = .returned (.tuple #[.bool (rgB r l), .bool (rgB r l && coB r (folF r m0 l 0).1.d)]) ∧ Below w.heap.size w w' := by
  have HB1 : Hid (Below w.heap.size w (w.alloc (.cells #[.slice d.A r.n d.c, .int .i64 r.last, .int .i64 r.toil] 24))) := hide ((Below.refl _ _).alloc (Nat.le_refl _) _)
  have G1 := hide (Blk.new w 24 #[.slice d.A r.n d.c, .int .i64 r.last, .int .i64 r.toil])
  have HCP := hide (fun W (h : RtR W d r) => copied_any d r W h hz)
  have HDE : Hid (∀ W, DsR W A l → _) := hide (fun W (h : DsR W A l) => deeds_any A c l W h hl)
  have HJU := hide (fun d' A' c' W (h : RtR W d' r) (h2 : DsR W A' l) => judge_any d' r A' c' l W h hz hl h2)
  have HCO := hide (fun d' A' c' W (h : RtR W d' r) (h2 : DsR W A' l) => complete_rite d' r A' c' l W h hz hl h2)
  have HR := hide (hd.ext HB1.out)
  have HD := hide (hD.ext HB1.out)
  unfold CpPost at HCP
  obtain ⟨n, hn⟩ : ∃ n, l.length = n := ⟨_, rfl⟩
  rw [hn] at HDE HJU HCO ⊢
  obtain ⟨g, hg⟩ : ∃ x, rgB r l = x := ⟨_, rfl⟩
  have HG := hide hg
  rw [hg]
  clear hd hz hD hl hn hg
  go_enter Tryd.func28, Tryd.ntmps28
  go_upto_region 1 with fail
  generalize w.alloc (.cells #[.slice d.A r.n d.c, .int .i64 r.last, .int .i64 r.toil] 24) = w1 at HB1 G1 HR HD ⊢
  obtain ⟨G, hG⟩ : ∃ x, w.heap.size = x := ⟨_, rfl⟩
  rw [hG] at G1 ⊢
  clear hG
  obtain ⟨g9, g0, g1, g2, -⟩ := blk3 G1.out
  go_wp2_with fail
  refine (HCP.out w1 HR.out).mono ?_
  rintro e w2 ⟨d2, rfl, hr2, hb2⟩
  have R2 := hide hr2
  have D2 := hide (HD.out.ext hb2)
  replace HR := hide (HR.out.ext hb2)
  replace G1 := hide (G1.out.ext hb2)
  replace HB1 := hide (HB1.out.trans (hb2.mono HB1.out.size))
  clear g9 g0 g1 g2 hr2 hb2 HD
  go_wp2_with fail
  refine (HDE.out w2 D2.out).mono ?_
  rintro e w3 ⟨A3, c3, rfl, ho3, hb3⟩
  have D3 : Hid (DsR w3 A3 l) := hide ho3.dsr.2
  replace R2 := hide (R2.out.ext hb3)
  replace D2 := hide (D2.out.ext hb3)
  replace HR := hide (HR.out.ext hb3)
  replace G1 := hide (G1.out.ext hb3)
  replace HB1 := hide (HB1.out.trans (hb3.mono HB1.out.size))
  clear ho3 hb3
  go_wp2_with fail
  refine (HJU.out d2 A3 c3 w3 R2.out D3.out).mono ?_
  rintro e w4 ⟨rfl, hb4⟩
  replace D2 := hide (D2.out.ext hb4)
  replace HR := hide (HR.out.ext hb4)
  replace G1 := hide (G1.out.ext hb4)
  replace HB1 := hide (HB1.out.trans (hb4.mono HB1.out.size))
  clear hb4 R2 D3 HJU
  cases g with
  | false =>
    have hno : (if riB r = true then (0 : Int) else 2) = 0 → (if riB r = true then (folF r m0 l 0).2.2 else 0) ≠ 0 := fun h1 h2 => by
      have h3 : rgB r l = true := by
        unfold rgB aftC
        by_cases hr : riB r = true
        · rw [if_pos hr] at h2 ⊢
          rw [if_pos h2]; rfl
        · rw [if_neg hr] at h1; cases h1
      rw [HG.out] at h3
      cases h3
    generalize (if riB r = true then (folF r m0 l 0).2.1 else 0) = at_
    revert hno
    generalize (if riB r = true then (folF r m0 l 0).2.2 else 0) = ru
    generalize (if riB r = true then (0 : Int) else 2) = er
    intro hno
    by_cases h1 : er = 0
    · have h2 := hno h1
      have e1 : (er != 0) = false := by rw [h1]; rfl
      have e2 : (ru != 0) = true := by rw [bne_iff_ne]; exact h2
      clear hno h1 h2
      rcases hat : (at_ != -1) with _ | _
      · go_wp2_with fail
        go_ret2
        exact ⟨rfl, HB1.out⟩
      · go_wp2_with fail
        go_ret2
        exact ⟨rfl, HB1.out⟩
    · have e1 : (er != 0) = true := by rw [bne_iff_ne]; exact h1
      clear hno h1
      go_wp2_with fail
      go_ret2
      exact ⟨rfl, HB1.out⟩
  | true =>
    obtain ⟨h1, h2, h3⟩ := rg_yes HG.out
    have h4 := fol_at l m0 0 h2
    rw [if_pos h1, if_pos h1, if_pos h1, h2, h4]
    have HA0 := hide h3
    clear h1 h2 h3 h4
    obtain ⟨g9, g0, g1, g2, -⟩ := blk3 G1.out
    go_wp2_with fail
    refine (HCP.out w4 HR.out).mono ?_
    rintro e w5 ⟨d5, rfl, hr5, hb5⟩
    have R5 := hide hr5
    replace D2 := hide (D2.out.ext hb5)
    replace HB1 := hide (HB1.out.trans (hb5.mono HB1.out.size))
    clear g9 g0 g1 g2 hr5 hb5
    go_wp2_with fail
    refine (HDE.out w5 D2.out).mono ?_
    rintro e w6 ⟨A6, c6, rfl, ho6, hb6⟩
    have D6 : Hid (DsR w6 A6 l) := hide ho6.dsr.2
    replace R5 := hide (R5.out.ext hb6)
    replace HB1 := hide (HB1.out.trans (hb6.mono HB1.out.size))
    clear ho6 hb6
    go_wp2_with fail
    refine (HCO.out d5 A6 c6 w6 R5.out D6.out).mono ?_
    rintro e w7 ⟨⟨h7, -⟩ | ⟨-, -, rfl⟩, hb7⟩
    · exact absurd HA0.out h7
    replace HB1 := hide (HB1.out.trans (hb7.mono HB1.out.size))
    clear hb7
    go_wp2_with fail
    go_ret2
    exact ⟨rfl, HB1.out⟩
theorem lo_z {r : Rit} {l : List (Int × Int)} (h : loF r l = false) : RtZ r ∧ l.length ≤ 20 := by
  unfold loF at h
  rw [Bool.or_eq_false_iff, Bool.or_eq_false_iff] at h
  obtain ⟨h1, h2, h3⟩ := h
  have hn : r.n ≤ 12 := by simpa using h2
  have hk : ∀ k, k < r.n → (r.ac k).nm.size ≤ 20 ∧ (r.ac k).nd.length ≤ 12 ∧ (r.ac k).ins.length ≤ 12 := fun k hk => by
    have h4 := List.any_eq_false.1 h1 k (List.mem_range.2 (by omega))
    unfold loA at h4
    simp at h4
    omega
  exact ⟨⟨by omega, fun k h => by have := hk k h; omega, fun k h => by have := hk k h; omega, fun k h => by have := hk k h; omega⟩, by simpa using h3⟩
/-- whether a rite is looked at -/
def gdB (r : Rit) (l : List (Int × Int)) : Bool := !loF r l && riB r
theorem gd_yes {r : Rit} {l : List (Int × Int)} (h : gdB r l = true) : RiOk r ∧ RtZ r ∧ l.length ≤ 20 ∧ riB r = true := by
  unfold gdB at h
  rw [Bool.and_eq_true] at h
  have h1 : loF r l = false := by simpa using h.1
  exact ⟨riB_ok h.2, (lo_z h1).1, (lo_z h1).2, h.2⟩
theorem good_any (d : Rad) (r : Rit) (A : Option Addr) (c : Nat) (l : List (Int × Int)) (w : World) (hd : RtR w d r) :
    Calls Tryd.prog 27 #[.agg #[.slice d.A r.n d.c, .int .i64 r.last, .int .i64 r.toil], .slice A l.length c] w fun e w' => e = .returned (.bool (gdB r l)) ∧ Below w.heap.size w w' := by
  have HB1 : Hid (Below w.heap.size w (w.alloc (.cells #[.slice d.A r.n d.c, .int .i64 r.last, .int .i64 r.toil] 24))) := hide ((Below.refl _ _).alloc (Nat.le_refl _) _)
  have G1 := hide (Blk.new w 24 #[.slice d.A r.n d.c, .int .i64 r.last, .int .i64 r.toil])
  have HR := hide (hd.ext HB1.out)
  have HLO := hide (long_any d r A c l _ HR.out)
  have HCP := hide (fun W (h : RtR W d r) (hz : RtZ r) => copied_any d r W h hz)
  have HCK := hide (fun d' W (h : RtR W d' r) (hz : RtZ r) => check_any d' r W h hz)
  unfold CpPost at HCP
  obtain ⟨gd, hgd⟩ : ∃ x, gdB r l = x := ⟨_, rfl⟩
  have HGD := hide hgd
  have hgd2 : gd = (!loF r l && riB r) := by rw [← hgd]; rfl
  rw [hgd]
  have HLZ : Hid (loF r l = false → RtZ r) := hide fun h => (lo_z h).1
  obtain ⟨lo, hlo⟩ : ∃ x, loF r l = x := ⟨_, rfl⟩
  rw [hlo] at HLO hgd2 HLZ
  obtain ⟨rb, hrb⟩ : ∃ x, riB r = x := ⟨_, rfl⟩
  have HRB := hide hrb
  rw [hrb] at HCK hgd2
  obtain ⟨n, hn⟩ : ∃ x, r.n = x := ⟨_, rfl⟩
  have HN := hide hn
  obtain ⟨m, hm⟩ : ∃ x, l.length = x := ⟨_, rfl⟩
  rw [hm] at HLO ⊢
  rw [hn] at HLO HCP HCK G1 ⊢
  clear hd hgd hlo hrb hm
  go_enter Tryd.func27, Tryd.ntmps27
  go_upto_region 1 with fail
  (try rw [hn])
  (try rw [hn] at HB1)
  (try rw [hn] at HR)
  (try rw [hn] at HLO)
  clear hn
  generalize w.alloc (.cells #[.slice d.A n d.c, .int .i64 r.last, .int .i64 r.toil] 24) = w1 at HB1 G1 HR HLO ⊢
  obtain ⟨G, hG⟩ : ∃ x, w.heap.size = x := ⟨_, rfl⟩
  rw [hG] at G1 ⊢
  clear hG
  obtain ⟨g9, g0, g1, g2, -⟩ := blk3 G1.out
  go_wp2_with fail
  refine HLO.out.mono ?_
  rintro e w2 ⟨rfl, hb2⟩
  replace HR := hide (HR.out.ext hb2)
  replace G1 := hide (G1.out.ext hb2)
  replace HB1 := hide (HB1.out.trans (hb2.mono HB1.out.size))
  clear g9 g0 g1 g2 hb2 HLO
  cases lo with
  | true =>
    obtain rfl : gd = false := by rw [hgd2]; rfl
    clear hgd2
    go_wp2_with fail
    go_ret
    exact ⟨rfl, HB1.out⟩
  | false =>
  have HZ := hide (HLZ.out rfl)
  obtain ⟨g9, g0, g1, g2, -⟩ := blk3 G1.out
  go_wp2_with fail
  refine (HCP.out w2 HR.out HZ.out).mono ?_
  rintro e w3 ⟨d3, rfl, hr3, hb3⟩
  have R3 := hide hr3
  replace HR := hide (HR.out.ext hb3)
  replace G1 := hide (G1.out.ext hb3)
  replace HB1 := hide (HB1.out.trans (hb3.mono HB1.out.size))
  clear g9 g0 g1 g2 hr3 hb3 HLZ
  go_wp2_with fail
  refine (HCK.out d3 w3 R3.out HZ.out).mono ?_
  rintro e w4 ⟨rfl, hb4⟩
  replace HR := hide (HR.out.ext hb4)
  replace G1 := hide (G1.out.ext hb4)
  replace HB1 := hide (HB1.out.trans (hb4.mono HB1.out.size))
  clear hb4 R3 HCK HCP
  cases rb with
  | false =>
    obtain rfl : gd = false := by rw [hgd2]; rfl
    rw [if_neg (by decide)]
    clear hgd2
    go_wp2_with fail
    go_ret
    exact ⟨rfl, HB1.out⟩
  | true =>
  obtain rfl : gd = true := by rw [hgd2]; rfl
  rw [if_pos rfl]
  clear hgd2
  have HRO := hide (riB_ok HRB.out)
  have hn10 := HRO.out.n10
  rw [HN.out] at hn10
  go_wp2_with fail
  go_loopw [5] (fun i wr => ∃ k : Nat, k ≤ n ∧ i = .int .i64 k ∧ Hid (Below w4.heap.size w4 wr)) (fun i _ => n - (intOf i).toNat)
  case atStart => exact ⟨0, Nat.zero_le _, rfl, hide (Below.refl _ _)⟩
  case round =>
    obtain ⟨k, hk, rfl, HB⟩ := hrel
    have hst : IntKind.i64.wrap ((k : Int) + 1) = ((k + 1 : Nat) : Int) := by rw [IntWalk.i64_in _ (by omega)]; omega
    have G5 := hide (G1.out.ext HB.out)
    obtain ⟨g9, g0, g1, g2, -⟩ := blk3 G5.out
    by_cases hlt : k < n
    · have hlt' : (k : Int) < (n : Int) := by omega
      have hkr : k < r.n := by rw [HN.out]; exact hlt
      obtain ⟨a, ha⟩ : ∃ x, r.ac k = x := ⟨_, rfl⟩
      have hac := HRO.out.at_ hkr
      have hrd := (HR.out.ext HB.out).nd k hkr
      obtain ⟨ab, ao, hra, hb, c0, c1, c2, c3, c4, c5, c6⟩ := (HR.out.ext HB.out).at_ hkr ha
      rw [hra] at g0 ⊢
      have hndx := hac.nd
      have hndl := HZ.out.nd k hkr
      rw [ha] at hndx hndl hrd
      have HG0 : Hid (∀ W, Below w4.heap.size w4 W → W.cell? ⟨G, 0, none⟩ = some (.slice (some ⟨ab, ao, none⟩) n d.c)) := hide fun W h => by have h2 := (blk3 (G1.out.ext h)).2.1; rw [hra] at h2; exact h2
      obtain ⟨nm, nd, ins, at_, fr, to_, ex⟩ := a
      dsimp only at c0 c1 c2 c3 c4 c5 c6 hndx hndl hrd
      have HNX : Hid (∀ x ∈ nd, 0 ≤ x ∧ x < n) := hide fun x hx => by have h := hndx x hx; have h2 := HN.out; omega
      have HRD := hide hrd
      obtain ⟨na, hna⟩ : ∃ x, d.na k = x := ⟨_, rfl⟩
      obtain ⟨nc, hnc⟩ : ∃ x, d.nc k = x := ⟨_, rfl⟩
      obtain ⟨nn, hnn⟩ : ∃ x, nd.length = x := ⟨_, rfl⟩
      have HNN := hide hnn
      rw [hna] at HRD
      rw [hna, hnc, hnn] at c1
      rw [hnn] at hndl
      clear hkr ha hac hrd hra hb hndx hna hnc hnn
      have hbE : Below wr.heap.size wr (wr.alloc (.cells #[.string nm, .slice na nn nc, .slice (d.ia k) ins.length (d.ic k), .int .i64 at_, .int .i64 fr, .int .i64 to_, .bool ex] 58)) := (Below.refl _ _).alloc (Nat.le_refl _) _
      have KE := hide (Blk.new wr 58 #[.string nm, .slice na nn nc, .slice (d.ia k) ins.length (d.ic k), .int .i64 at_, .int .i64 fr, .int .i64 to_, .bool ex])
      have HBE := hide (HB.out.trans (hbE.mono HB.out.size))
      have HRE : Hid (LI (wr.alloc (.cells #[.string nm, .slice na nn nc, .slice (d.ia k) ins.length (d.ic k), .int .i64 at_, .int .i64 fr, .int .i64 to_, .bool ex] 58)) _ na nd) := hide ((ER.below HRD.out hbE (Nat.le_refl _)).more hbE.size)
      clear hbE
      go_wp2_with fail
      generalize wr.alloc (.cells #[.string nm, .slice na nn nc, .slice (d.ia k) ins.length (d.ic k), .int .i64 at_, .int .i64 fr, .int .i64 to_, .bool ex] 58) = we at KE HBE HRE ⊢
      obtain ⟨E, hE⟩ : ∃ x, wr.heap.size = x := ⟨_, rfl⟩
      rw [hE] at KE ⊢
      clear hE c0 c1 c2 c3 c4 c5 c6 g9 g0 g1 g2 HB G5 HRD
      go_loopw [7] (fun i wf => ∃ t : Nat, t ≤ nn ∧ i = .int .i64 t ∧ Hid (Below we.heap.size we wf)) (fun i _ => nn - (intOf i).toNat)
      case atStart => exact ⟨0, Nat.zero_le _, rfl, hide (Below.refl _ _)⟩
      case round =>
        obtain ⟨t, ht, rfl, HBF⟩ := hrel
        have hst2 : IntKind.i64.wrap ((t : Int) + 1) = ((t + 1 : Nat) : Int) := by rw [IntWalk.i64_in _ (by omega)]; omega
        have y1 : wr.cell? ⟨E, 1, none⟩ = some (.slice na nn nc) := (KE.out.ext HBF.out).cell 1
        by_cases htl : t < nn
        · have htl' : (t : Int) < (nn : Int) := by omega
          have htn : t < nd.length := by rw [HNN.out]; exact htl
          obtain ⟨xb, xo, hxa, hxl, hxc⟩ := VR1.at_ HRE.out htn
          have hx := HNX.out (nd.getD t 0) (by rw [List.getD_eq_getElem?_getD, List.getElem?_eq_getElem htn]; exact List.getElem_mem htn)
          obtain ⟨x, hxx⟩ : ∃ z, nd.getD t 0 = z := ⟨_, rfl⟩
          rw [hxx] at hxc hx
          have hx0 : ¬ x < 0 := by omega
          have hx1 : ¬ x ≥ (n : Int) := by omega
          have HS : Hid (∀ W, Below we.heap.size we W → (W.cell? ⟨E, 1, none⟩ = some (.slice (some ⟨xb, xo, none⟩) nn nc) ∧ W.cell? ⟨G, 0, none⟩ = some (.slice (some ⟨ab, ao, none⟩) n d.c) ∧ W.cell? ⟨xb, xo + t, none⟩ = some (.int .i64 x))) := hide fun W h => ⟨by rw [← hxa]; exact (KE.out.ext h).cell 1, HG0.out W (HBE.out.trans (h.mono HBE.out.size)), (h.cell (p := ⟨xb, xo + t, none⟩) hxl).trans hxc⟩
          rw [hxa] at y1
          clear htn hxl hxc hx hxx hxa
          go_upto_region 10 with fail
          have HBG := hide (HBF.out.trans ((Below.refl wr.heap.size wr).drew.mono HBF.out.size))
          refine wp_region_J (fun W : World => (W.cell? ⟨E, 1, none⟩ = some (.slice (some ⟨xb, xo, none⟩) nn nc) ∧ W.cell? ⟨G, 0, none⟩ = some (.slice (some ⟨ab, ao, none⟩) n d.c) ∧ W.cell? ⟨xb, xo + t, none⟩ = some (.int .i64 x))) (by kernel_rfl) ?_
          generalize wr.drew = wd at HBG ⊢
          refine tk_start [0, 1, 2, 3, 4, 5, 6, 7, 8, 9, 10, 11, 12, 13, 14, 15, 16] ?_
          iterate 17
            refine tk_one (v := ?_) (by first | exact hF | exact wideFn) (HS.out _ HBG.out) rfl (by kernel_rfl) (by kernel_rfl) (by kernel_rfl) (by kernel_rfl) rfl ?_ (by first | exact fun _ _ _ h => h | exact fun _ _ _ h => hQ2 _ _ _ _ _ h) ?_
            rotate_left
            · intro W hSW
              simp only [List.getElem_toArray, List.getElem_cons_zero, List.getElem_cons_succ]
              (try dsimp only at hSW)
              go_simp
              with_reducible rfl
            (try simp only [List.getElem_toArray, List.getElem_cons_zero, List.getElem_cons_succ, Act.put, List.setIfInBounds_toArray, List.set_cons_zero, List.set_cons_succ])
          refine tk_end ?_
          refine wpAnyJ_done (by kernel_rfl) ?_
          go_wp2_with fail
          go_roundw
          case rel => exact ⟨t + 1, by omega, by go_num, HBG⟩
          case measure => simp [intOf]; omega
        · obtain rfl : nn = t := by omega
          have hnl : ¬ (nn : Int) < (nn : Int) := by omega
          go_wp2_with fail
          go_roundw
          case rel => exact ⟨k + 1, by omega, by go_num, hide (HBE.out.trans (HBF.out.mono HBE.out.size))⟩
          case measure => simp [intOf]; omega
    · obtain rfl : n = k := by omega
      have hnl : ¬ (n : Int) < (n : Int) := by omega
      go_wp2_with fail
      go_ret
      exact ⟨rfl, HB1.out.trans (HB.out.mono HB1.out.size)⟩
end Go.Proofs.YtcgdalabenflmaaDoor
/- Rite: what a law's walk keeps. -/
namespace Go.Proofs.YtcgdalabenflmaaDoor
open Go Go.RowKit Go.Shelf
set_option maxHeartbeats 8000000
set_option maxRecDepth 100000
/-- what a law's walk keeps -/
structure LwS (w W : World) (G : Nat) (d : Rad) (r : Rit) (A : Option Addr) (l : List (Int × Int)) : Prop where
  lo : Below w.heap.size w W
  kG : Blk W G 24 #[.slice d.A r.n d.c, .int .i64 r.last, .int .i64 r.toil]
  rt : RtR W d r
  ds : DsR W A l
theorem LwS.ext {w W W' : World} {G : Nat} {d : Rad} {r : Rit} {A : Option Addr} {l : List (Int × Int)} (h : LwS w W G d r A l) (hb : Below W.heap.size W W') : LwS w W' G d r A l :=
  ⟨h.lo.trans (hb.mono h.lo.size), h.kG.ext hb, h.rt.ext hb, h.ds.ext hb⟩
theorem liE {W W' : World} {A : Option Addr} {l : List Int} (h : LI W W.heap.size A l) (hb : Below W.heap.size W W') : LI W' W'.heap.size A l := (ER.below h hb (Nat.le_refl _)).more hb.size
theorem frC_three {r : Rit} {l : List (Int × Int)} {day : Int} (h : aftC r l = 0) (h2 : frC r l day ≠ 0) : frC r l day = 3 := by
  unfold frC at h2 ⊢
  rw [if_pos h] at h2 ⊢
  split at h2
  · exact absurd rfl h2
  · rename_i h3; rw [if_neg h3]
theorem frC_in {r : Rit} {l : List (Int × Int)} {day : Int} (h : frC r l day = 0) : (folF r m0 l 0).1.day ≤ day ∧ day ≤ r.last := by
  unfold frC at h
  split at h
  · split at h
    · rename_i h3; exact h3
    · cases h
  · rename_i h2; exact absurd h h2
end Go.Proofs.YtcgdalabenflmaaDoor
/- Rite: what a question answers, said in one way. -/
namespace Go.Proofs.YtcgdalabenflmaaDoor
open Go Go.RowKit Go.Shelf
set_option maxHeartbeats 8000000
set_option maxRecDepth 100000
/-- what a question answers, if it is answered -/
def askL (r : Rit) (l : List (Int × Int)) (day : Int) (S : Nat) : List Int := if frC r l day = 0 then ofN (elS S) else []
theorem ask_all {w w' : World} {r : Rit} {l : List (Int × Int)} {day : Int} {S : Nat} {e : Ending} (h : AskPost w r l day S e w') :
    ∃ B bc, e = .returned (.tuple #[.slice B (askL r l day S).length bc, .int .i64 (frC r l day)]) ∧ LI w' w'.heap.size B (askL r l day S) ∧ Below w.heap.size w w' := by
  obtain ⟨⟨hc, rfl⟩ | ⟨hc, -, v, rfl, hv⟩, hb⟩ := h
  · unfold askL
    rw [if_neg hc]
    exact ⟨none, 0, rfl, ER.nil _ _ _ _ _, hb⟩
  · obtain ⟨B, bc, rfl⟩ := own_shape hv
    unfold askL
    rw [if_pos hc, hc]
    exact ⟨B, bc, rfl, hv.li.2, hb⟩
theorem on_dayA (m : Mom) (x : Int) : (m.on x).day = x := by
  unfold Mom.on
  split
  · rename_i h; exact h.symm
  · rfl
end Go.Proofs.YtcgdalabenflmaaDoor
/- How a law's statement follows from its walk; arguments opened as readings. -/
namespace Go.Proofs.YtcgdalabenflmaaDoor
open Go Go.RowKit Go.ChangeShapes Go.WideShapes Go.ChangeAt
set_option maxRecDepth 100000
theorem own_knob : ownKnob Tryd.prog.godebug = none := by kernel_rfl
theorem laidOut : laidOutB Tryd.prog = true := by kernel_rfl
section
variable {H : Type} {enc : TypeId × Value → H}
/-- arguments read behind the call as before, if below the heap's old size nothing has turned -/
theorem stay_all {W W' : World} (hb : Below W.heap.size W W') {sp : Nat → Bool} : ∀ {ts : List TypeId} {vs : List Value} {ds : List (DataW H)} {ps : List MemPlace},
    (∀ t ∈ ts, Tryd.prog.readableRec t = true ∧ t < Tryd.prog.types.size) → DataW.TrodAll enc Tryd.prog W 0 (fun _ => true) true ts vs ds ps → (∀ x ∈ ps, x.block < W.heap.size) → (∀ x ∈ ps, sp x.block = true) →
    DataW.TrodAll enc Tryd.prog W' 0 sp true ts vs ds ps
  | [], _, _, _, _, h, _, _ => by
    obtain ⟨rfl, rfl, rfl⟩ := trodAll_nil h
    exact trodAll_mk0
  | t :: ts, _, _, _, hr, h, hlt, hsp => by
    obtain ⟨v, vs, d, ds, p, q, rfl, rfl, rfl, h0, r0⟩ := trodAll_cons h
    have k := hr t (by simp)
    exact trodAll_cons_mk (WideElems.Trod_stays laidOut k.1 k.2 h0 (fun x hx => hb.same (hlt x (by simp [hx]))) (fun x hx => hsp x (by simp [hx])))
      (stay_all hb (fun t ht => hr t (by simp [ht])) r0 (fun x hx => hlt x (by simp [hx])) (fun x hx => hsp x (by simp [hx])))
/-- a law that returned true and turned nothing old -/
theorem law_post {f : Func} {s : ChangeSpec} {apart fresh handsOn again : Bool} {W W' : World} {args : Array Value} {ds gs : List (DataW H)} {before : List MemPlace}
    (hW : DataW.Whole enc Tryd.prog f.params.toList s.vars apart W args.toList ds gs before) (hb : Below W.heap.size W W')
    (hvs : s.vars = []) (hr1 : f.resultTypes = #[4])
    (hpar : f.params.toList.all (fun t => Tryd.prog.readableRec t && decide (t < Tryd.prog.types.size)) = true)
    (hfn : (s.fn H ds).results = [.lit (.bool true)] ∧ (s.fn H ds).args = ds ∧ (s.fn H ds).vars = []) :
    s.post enc Tryd.prog f apart fresh handsOn again W args (.bool true) W' := by
  have hW0 := hW
  have hlt : ∀ p ∈ before, p.block < W.heap.size := fun p hp => hW.lt p hp
  have hold : ∀ p ∈ before, (fun b => decide (b < W.heap.size)) p.block = true := fun p hp => by simpa using hlt p hp
  obtain ⟨p, q, hA, hV, rfl, hz, hn⟩ := hW
  rw [hvs] at hV
  obtain ⟨rfl, rfl⟩ := trodVars_none hV
  simp only [List.append_nil] at *
  have hk : ∀ t ∈ f.params.toList, Tryd.prog.readableRec t = true ∧ t < Tryd.prog.types.size := by
    intro t ht
    have := List.all_eq_true.1 hpar t ht
    simpa using this
  have hargs : ∀ sp : Nat → Bool, (∀ x ∈ p, sp x.block = true) → DataW.TrodAll enc Tryd.prog W' 0 sp true f.params.toList args.toList (s.fn H (ds ++ [])).args p := fun sp hsp => by
    rw [List.append_nil, hfn.2.1]; exact stay_all hb hk hA hlt hsp
  have hvars : ∀ sp : Nat → Bool, DataW.TrodVars enc Tryd.prog W' sp s.vars (s.fn H (ds ++ [])).vars [] := fun sp => by
    rw [hvs, List.append_nil, hfn.2.2]; exact rfl
  have hres : ∀ (b : Nat) (sp : Nat → Bool) (hd : Bool), DataW.TrodAll enc Tryd.prog W' b sp hd f.resultTypes.toList ((Value.bool true).resultList f.resultTypes.size) (s.fn H (ds ++ [])).results [] := fun b sp hd => by
    rw [List.append_nil, hfn.1, hr1]
    exact trodAll_cons_mk (shut_bool Tryd.underlying4 _) trodAll_mk0
  refine ⟨ds, [], p, [], p, [], hW0, hres _ _ _, hargs _ hold, hvars _, World.keptBut_mono (fun x hx => ⟨hx, Or.inr (by simpa using hx)⟩) (hb.frame (· ∈ p)), fun _ => ?_⟩
  refine ⟨ok_one hr1 rfl (okWide_bool_mk Tryd.underlying4 _), _, _, ([] ++ p) ++ [], ⟨[] ++ p, [], trodAll_append (hargs _ (fun _ _ => rfl)) (hres _ _ _), hvars (fun _ => true), rfl, ?_, ?_⟩, ?_⟩
  · intro b off hp
    have hin : MemPlace.cell b off ∈ p := by simpa using hp
    rw [hb.frozen (hlt _ hin)]
    exact hz b off hin
  · intro ha
    simpa using hn ha
  · intro x hx _
    simpa using hx
/-- a slice of structs of two cells: the readings of its elements -/
theorem open_pairs_c {W : World} {t e : TypeId} {f0 f1 : Field} {v : Value} {x : DataW H × List MemPlace} {fuel : Nat} (ht : Tryd.prog.underlying t = some (.slice e)) (he : Tryd.prog.underlying e = some (.struct #[f0, f1]))
    (ce : Tryd.prog.cellsOf e = 2) (o0 : f0.offset = 0) (o1 : f1.offset = 1) (c0 : Tryd.prog.cellsOf f0.type = 1) (c1 : Tryd.prog.cellsOf f1.type = 1)
    (h : DataW.trod enc Tryd.prog W 0 (fun _ => true) true fuel t [v] = some x) (hlt : ∀ y ∈ x.2, y.block < W.heap.size) :
    ∃ A n c V0 V1, v = .slice A n c ∧ n ≤ maxLen ∧ n ≤ c ∧ P2 W W.heap.size A n V0 V1 ∧ ∀ i, i < n → ∃ m x0 x1, DataW.trod enc Tryd.prog W 0 (fun _ => true) true m f0.type [V0 i] = some x0 ∧ DataW.trod enc Tryd.prog W 0 (fun _ => true) true m f1.type [V1 i] = some x1 ∧
      (∀ y ∈ x0.2, y.block < W.heap.size) ∧ (∀ y ∈ x1.2, y.block < W.heap.size) := by
  rcases Deep.open_slice_pairs ht he ce o0 o1 c0 c1 h with ⟨h1, -⟩ | ⟨a, len, cap, m, n, V0, V1, D0, D1, P0, P1, h1, hb, hl, hm, hmm, hx, hc⟩
  · injection h1 with h1
    subst h1
    exact ⟨none, 0, 0, fun _ => .nilIface, fun _ => .nilIface, rfl, by simp [maxLen], Nat.le_refl _, ER.nil _ _ _ _ _, fun i hi => absurd hi (by omega)⟩
  · injection h1 with h1
    subst h1
    simp only [if_true] at hmm
    subst hmm
    refine ⟨some a, len, m, V0, V1, rfl, by omega, hl, fun hn => ?_, fun i hi => ?_⟩
    · have h0 := (hc 0 (by omega)).1
      obtain ⟨b, off, spot⟩ := a
      have hsp : spot = none := by simpa [Addr.add] using World.cell?_spot h0
      subst hsp
      refine ⟨b, off, rfl, ?_, fun k i hk hi => ?_⟩
      · have hb1 := hlt (.cell b (off + 0)) (by
          rw [hx]
          exact List.mem_append_left _ (MemPlace.mem_row.2 ⟨0, by omega, rfl⟩))
        exact hb1
      · have hk2 := hc k (by omega)
        have q0 := hk2.1
        have q1 := hk2.2.1
        rw [add_lit'] at q0 q1
        rcases (by omega : i = 0 ∨ i = 1) with rfl | rfl
        · simpa using q0
        · simpa [Nat.add_assoc] using q1
    · have hi2 := hc i (by omega)
      refine ⟨n, _, _, hi2.2.2.1, hi2.2.2.2, fun y hy => hlt y ?_, fun y hy => hlt y ?_⟩
      · rw [hx]; exact List.mem_append_right _ (List.mem_flatMap.2 ⟨i, by simp; omega, List.mem_append_left _ hy⟩)
      · rw [hx]; exact List.mem_append_right _ (List.mem_flatMap.2 ⟨i, by simp; omega, List.mem_append_right _ hy⟩)
/-- a slice of ints -/
theorem open_ints_c {W : World} {t : TypeId} {v : Value} {x : DataW H × List MemPlace} {fuel : Nat} (ht : Tryd.prog.underlying t = some (.slice 3))
    (h : DataW.trod enc Tryd.prog W 0 (fun _ => true) true fuel t [v] = some x) (hlt : ∀ y ∈ x.2, y.block < W.heap.size) :
    ∃ A n c z, v = .slice A n c ∧ n ≤ maxLen ∧ n ≤ c ∧ IR W W.heap.size A n z ∧ ∀ i, i < n → -9223372036854775808 ≤ z i ∧ z i ≤ 9223372036854775807 := by
  rcases open_ints ht Tryd.underlying3 (by kernel_rfl) h with ⟨h1, -⟩ | ⟨a, len, cap, zs, h1, hb, hl, hm, hz, hx, hc, hwf⟩
  · injection h1 with h1
    subst h1
    exact ⟨none, 0, 0, fun _ => 0, rfl, by simp [maxLen], Nat.le_refl _, ER.nil _ _ _ _ _, fun i hi => absurd hi (by omega)⟩
  · injection h1 with h1
    subst h1
    simp only [if_true] at hz
    refine ⟨some a, len, cap, fun i => zs.getD i 0, rfl, by omega, hl, fun hn => ?_, fun i hi => ?_⟩
    · have h0 := hc 0 (by omega)
      obtain ⟨b, off, spot⟩ := a
      have hsp : spot = none := by simpa [Addr.add] using World.cell?_spot h0
      subst hsp
      refine ⟨b, off, rfl, ?_, fun k i hk hi => ?_⟩
      · have hb1 := hlt (.cell b (off + 0)) (by
          rw [hx]
          exact MemPlace.mem_row.2 ⟨0, by omega, rfl⟩)
        exact hb1
      · obtain rfl : i = 0 := by omega
        have := hc k (by omega)
        rw [add_lit'] at this
        simpa using this
    · have h1 : zs.getD i 0 ∈ zs := by
        rw [List.getD_eq_getElem?_getD, List.getElem?_eq_getElem (by omega)]
        exact List.getElem_mem _
      have := hwf _ h1
      simp only [Lit.wf, Bool.and_eq_true, decide_eq_true_eq] at this
      simpa [IntKind.min, IntKind.max, IntKind.signed, IntKind.bits] using this
theorem int_of_trod {W : World} {t : TypeId} {v : Value} {x : DataW H × List MemPlace} {fuel : Nat} (ht : Tryd.prog.underlying t = some (.int .i64)) (h : DataW.trod enc Tryd.prog W 0 (fun _ => true) true fuel t [v] = some x) :
    v = .int .i64 (intOf v) ∧ -9223372036854775808 ≤ intOf v ∧ intOf v ≤ 9223372036854775807 := by
  obtain ⟨z, hz, -, hw⟩ := DataW.trod_int ht h
  injection hz with hz
  subst hz
  simp only [Lit.wf, Bool.and_eq_true, decide_eq_true_eq] at hw
  exact ⟨rfl, by simpa [intOf, IntKind.min, IntKind.max, IntKind.signed, IntKind.bits] using hw⟩
theorem cells_slice {A : Option Addr} {n c : Nat} : (Value.slice A n c).cells.toList = [.slice A n c] := rfl
/-- a slice of structs of two ints -/
theorem open_pairs {r : Reach} {b0 : Nat} {W : World} {t e : TypeId} {f0 f1 : Field} {v : Value} {d : DataW H} {p : List MemPlace} (ht : Tryd.prog.underlying t = some (.slice e)) (he : Tryd.prog.underlying e = some (.struct #[f0, f1]))
    (ce : Tryd.prog.cellsOf e = 2) (o0 : f0.offset = 0) (o1 : f1.offset = 1) (c0 : Tryd.prog.cellsOf f0.type = 1) (c1 : Tryd.prog.cellsOf f1.type = 1)
    (k0 : Tryd.prog.underlying f0.type = some (.int .i64)) (k1 : Tryd.prog.underlying f1.type = some (.int .i64)) (hval : Value.okWide Tryd.prog W r b0 t v)
    (h : DataW.Trod enc Tryd.prog W 0 (fun _ => true) true t v d p) (hlt : ∀ x ∈ p, x.block < W.heap.size) :
    ∃ A n c x y, v = .slice A n c ∧ n ≤ maxLen ∧ n ≤ c ∧ PI W W.heap.size A n x y := by
  obtain ⟨fuel, h⟩ := h
  obtain ⟨A, n, c, rfl⟩ := okWide_slice ht hval
  rw [cells_slice] at h
  obtain ⟨A', n', c', V0, V1, h1, hn, hnc, hP, hV⟩ := open_pairs_c ht he ce o0 o1 c0 c1 h hlt
  injection h1 with h1 h2 h3
  subst h1 h2 h3
  refine ⟨A, n, c, fun i => intOf (V0 i), fun i => intOf (V1 i), rfl, hn, hnc, fun hn0 => ?_⟩
  obtain ⟨b, off, hA, hb, hc⟩ := hP hn0
  refine ⟨b, off, hA, hb, fun k i hk hi => ?_⟩
  obtain ⟨m, x0, x1, g0, g1, -, -⟩ := hV k hk
  rw [hc k i hk hi]
  rcases (by omega : i = 0 ∨ i = 1) with rfl | rfl
  · simpa using (int_of_trod k0 g0).1
  · simpa using (int_of_trod k1 g1).1
end
end Go.Proofs.YtcgdalabenflmaaDoor
/- Rite: a law's arguments opened: rites, lists of deeds, the library's table. -/
namespace Go.Proofs.YtcgdalabenflmaaDoor
open Go Go.RowKit Go.ChangeShapes Go.WideShapes Go.ChangeAt
section
variable {H : Type} {enc : TypeId × Value → H} {r : Reach} {b0 : Nat} {W : World} {v : Value} {d : DataW H} {p : List MemPlace}
set_option maxRecDepth 100000
/-- a slice of structs of one-cell fields -/
theorem open_cellsR {t e : TypeId} {fs : Array Field} {x : DataW H × List MemPlace} {fuel : Nat} (ht : Tryd.prog.underlying t = some (.slice e)) (he : Tryd.prog.underlying e = some (.struct fs)) (hone : Deep.oneCellFields Tryd.prog fs = true)
    (ce : Tryd.prog.cellsOf e = fs.size) (hpos : 0 < fs.size) (h : DataW.trod enc Tryd.prog W 0 (fun _ => true) true fuel t [v] = some x) (hlt : ∀ y ∈ x.2, y.block < W.heap.size) :
    ∃ A n c V, v = .slice A n c ∧ n ≤ maxLen ∧ n ≤ c ∧ ER W W.heap.size fs.size A n V ∧ ∀ i k f, i < n → fs[k]? = some f → ∃ m y, DataW.trod enc Tryd.prog W 0 (fun _ => true) true m f.type [V i k] = some y ∧ (∀ z ∈ y.2, z.block < W.heap.size) := by
  rcases Deep.open_slice ht h with ⟨h1, -⟩ | ⟨a, len, cap, m, n, D, Pl, h1, hb, hl, hm, hmm, hx, hc⟩
  · injection h1 with h1
    subst h1
    exact ⟨none, 0, 0, fun _ _ => .nilIface, rfl, by simp [maxLen], Nat.le_refl _, ER.nil _ _ _ _ _, fun i k f hi => absurd hi (by omega)⟩
  · injection h1 with h1
    subst h1
    simp only [if_true] at hmm
    subst hmm
    rw [ce] at hc hx
    obtain ⟨C, hC⟩ := Deep.choose_lt hc
    refine ⟨some a, len, m, fun i k => (C i).getD k undef, rfl, by omega, hl, fun hn => ?_, fun i k f hi hf => ?_⟩
    · obtain ⟨-, hl0, hc0⟩ := World.cells?_some (hC 0 (by omega)).1
      have h0 := hc0 0 hpos
      rw [List.getElem?_eq_getElem (by omega)] at h0
      obtain ⟨b, off, spot⟩ := a
      have hsp : spot = none := by simpa [Addr.add] using World.cell?_spot h0
      subst hsp
      refine ⟨b, off, rfl, ?_, fun k i hk hi => ?_⟩
      · have hb1 := hlt (.cell b (off + 0)) (by
          rw [hx]
          exact List.mem_append_left _ (MemPlace.mem_row.2 ⟨0, Nat.mul_pos (by omega) hpos, rfl⟩))
        exact hb1
      · obtain ⟨-, hl1, hc1⟩ := World.cells?_some (hC k (by omega)).1
        have h2 := hc1 i hi
        rw [Deep.add_add, add_lit', List.getElem?_eq_getElem (by omega)] at h2
        rw [show off + k * fs.size + i = off + (k * fs.size + i) by omega, h2]
        simp [List.getD, List.getElem?_eq_getElem (show i < (C k).length by omega)]
    · obtain ⟨-, hl1, -⟩ := World.cells?_some (hC i (by omega)).1
      obtain ⟨xs, m', -, hxy, -, hxl, hf2⟩ := DataW.trod_struct he (hC i (by omega)).2
      have hk : k < fs.size := (Array.getElem?_eq_some_iff.1 hf).1
      obtain ⟨ho, hc1⟩ := Deep.hone_of hone k f hf
      have g := hf2 k f hf
      rw [ho, hc1, Deep.take1_drop (C i) k undef (by omega), List.getElem?_eq_getElem (by omega)] at g
      refine ⟨m', _, g, fun z hz => hlt z ?_⟩
      rw [hx]
      simp only [Prod.mk.injEq] at hxy
      refine List.mem_append_right _ (List.mem_flatMap.2 ⟨i, by simp; omega, ?_⟩)
      rw [hxy.2]
      exact List.mem_flatMap.2 ⟨_, List.getElem_mem _, hz⟩
theorem arr3R {cs : Array Value} (h : cs.size = 3) : ∃ a b c, cs = #[a, b, c] := by
  rcases cs with ⟨l⟩
  match l, h with
  | [a, b, c], _ => exact ⟨a, b, c, rfl⟩
/-- the table of the library, from a row's list -/
theorem tb_laid {l : List (String × DataW Unit)} {T : DataW Unit} (h : laidMetH Tryd.prog l W) (hpl : (l.all fun x => x.2.handleName?.isNone) = true) (hm : ("math/bits.deBruijn32tab", T) ∈ l)
    (hT : T = Lib.tabData .u8 ((List.range 32).map fun j => ((Lib.deBruijn32tab.getD j 0 : Nat) : Int))) : TB W := by
  rw [MakeChecks.laidMetH_plain _ _ _ hpl] at h
  obtain ⟨g, t, cs, fuel, p, hg, hty, hvar, hd⟩ := Lib.laidMet.reads h hm
  obtain rfl := Option.some.inj ((show Tryd.prog.globalNamed "math/bits.deBruijn32tab" = some 0 by kernel_rfl).symm.trans hg)
  have ht2 : (Tryd.prog.globals[0]?).map (·.type) = some 135 := by kernel_rfl
  obtain rfl := Option.some.inj (ht2.symm.trans hty)
  rw [hT] at hd
  have hcs := Lib.cells_of_tab Tryd.underlying135 Tryd.underlying5 (by kernel_rfl) (by kernel_rfl) hd
  have key : ∀ j, j < 32 → W.cell? ⟨0, j, none⟩ = some (.int .u8 (Lib.deBruijn32tab.getD j 0 : Nat)) := fun j hj => by
    have := World.var?_cell hg hvar j
    rw [this, ← Array.getElem?_toList, hcs]
    simp [hj]
  exact ⟨World.block_lt_of_cell? W ⟨0, 0, none⟩ (key 0 (by omega)), key⟩
/-- a list of deeds -/
theorem open_deeds {x : DataW H × List MemPlace} {fuel : Nat} (h : DataW.trod enc Tryd.prog W 0 (fun _ => true) true fuel 25 [v] = some x) (hlt : ∀ y ∈ x.2, y.block < W.heap.size) :
    ∃ (A : Option Addr) (c : Nat) (l : List (Int × Int)), v = .slice A l.length c ∧ (l.length ≤ maxLen ∧ l.length ≤ c) ∧ DsR W A l ∧ ∀ t ∈ l, (-9223372036854775808 ≤ t.1 ∧ t.1 ≤ 9223372036854775807) ∧ -9223372036854775808 ≤ t.2 ∧ t.2 ≤ 9223372036854775807 := by
  obtain ⟨A, n, c, V, rfl, hn, hnc, hE, hV⟩ := open_cellsR Tryd.underlying25 Tryd.underlying60 (by kernel_rfl) (by kernel_rfl) (by decide) h hlt
  have k0 : ∀ k, k < n → V k 0 = .int .i64 (intOf (V k 0)) ∧ -9223372036854775808 ≤ intOf (V k 0) ∧ intOf (V k 0) ≤ 9223372036854775807 := fun k hk => by
    obtain ⟨m, y, g, -⟩ := hV k 0 _ hk rfl
    exact int_of_trod Tryd.underlying3 g
  have k1 : ∀ k, k < n → V k 1 = .int .i64 (intOf (V k 1)) ∧ -9223372036854775808 ≤ intOf (V k 1) ∧ intOf (V k 1) ≤ 9223372036854775807 := fun k hk => by
    obtain ⟨m, y, g, -⟩ := hV k 1 _ hk rfl
    exact int_of_trod Tryd.underlying3 g
  obtain ⟨f, hf⟩ : ∃ f : Nat → Int × Int, f = fun k => (intOf (V k 0), intOf (V k 1)) := ⟨_, rfl⟩
  have hl : ((List.range n).map f).length = n := by simp
  have hg : ∀ k, k < n → ((List.range n).map f).getD k (0, 0) = f k := fun k hk => by
    rw [List.getD_eq_getElem?_getD, List.getElem?_map, List.getElem?_range hk]; rfl
  refine ⟨A, c, (List.range n).map f, by rw [hl], by rw [hl]; exact ⟨hn, hnc⟩, ?_, fun t ht => by
    obtain ⟨k, hk, rfl⟩ := List.mem_map.1 ht
    rw [hf]
    exact ⟨(k0 k (List.mem_range.1 hk)).2, (k1 k (List.mem_range.1 hk)).2⟩⟩
  unfold DsR
  rw [hl]
  refine fun hn0 => ?_
  obtain ⟨b, off, hA, hb, hc⟩ := hE hn0
  refine ⟨b, off, hA, hb, fun k i hk hi => ?_⟩
  refine (hc k i hk hi).trans ?_
  show _ = some (dsV (((List.range n).map f).getD k (0, 0)) i)
  rw [hg k hk, hf]
  rcases (by omega : i = 0 ∨ i = 1) with rfl | rfl
  · rw [(k0 k hk).1]; rfl
  · rw [(k1 k hk).1]; rfl
/-- a list of acts -/
theorem open_acts {x : DataW H × List MemPlace} {fuel : Nat} (h : DataW.trod enc Tryd.prog W 0 (fun _ => true) true fuel 22 [v] = some x) (hlt : ∀ y ∈ x.2, y.block < W.heap.size) (last toil : Int) :
    ∃ (d : Rad) (l : List Rac), v = .slice d.A l.length d.c ∧ l.length ≤ maxLen ∧ RtR W d ⟨l, last, toil⟩ := by
  obtain ⟨A, n, c, V, rfl, hn, hnc, hE, hV⟩ := open_cellsR Tryd.underlying22 Tryd.underlying58 (by kernel_rfl) (by kernel_rfl) (by decide) h hlt
  have key : ∀ i, i < n → ∃ q : Option Addr × Nat × Option Addr × Nat × Rac, (∀ k, k < 7 → V i k = acV q.2.2.2.2 q.1 q.2.1 q.2.2.1 q.2.2.2.1 k) ∧ LI W W.heap.size q.1 q.2.2.2.2.nd ∧ LI W W.heap.size q.2.2.1 q.2.2.2.2.ins := fun i hi => by
    obtain ⟨m0, y0, g0, l0⟩ := hV i 0 _ hi rfl
    obtain ⟨m1, y1, g1, l1⟩ := hV i 1 _ hi rfl
    obtain ⟨m2, y2, g2, l2⟩ := hV i 2 _ hi rfl
    obtain ⟨m3, y3, g3, l3⟩ := hV i 3 _ hi rfl
    obtain ⟨m4, y4, g4, l4⟩ := hV i 4 _ hi rfl
    obtain ⟨m5, y5, g5, l5⟩ := hV i 5 _ hi rfl
    obtain ⟨m6, y6, g6, l6⟩ := hV i 6 _ hi rfl
    obtain ⟨s, hs, -, -⟩ := DataW.trod_string Tryd.underlying9 g0
    obtain ⟨bo, hbo, -⟩ := DataW.trod_bool Tryd.underlying4 g6
    obtain ⟨A1, n1, c1, z1, e1, -, -, r1, -⟩ := open_ints_c Tryd.underlying48 g1 l1
    obtain ⟨A2, n2, c2, z2, e2, -, -, r2, -⟩ := open_ints_c Tryd.underlying48 g2 l2
    have e3 := (int_of_trod Tryd.underlying3 g3).1
    have e4 := (int_of_trod Tryd.underlying3 g4).1
    have e5 := (int_of_trod Tryd.underlying3 g5).1
    injection hs with e0
    injection hbo with e6
    have li : ∀ (A : Option Addr) (n : Nat) (z : Nat → Int), IR W W.heap.size A n z → LI W W.heap.size A ((List.range n).map z) := fun A n z hz => by
      have hl : ((List.range n).map z).length = n := by simp
      unfold LI
      rw [hl]
      refine fun hn => ?_
      obtain ⟨b', off, hA, hb, hc⟩ := hz hn
      refine ⟨b', off, hA, hb, fun k i hk hi => ?_⟩
      rw [hc k i hk hi]
      have e : ((List.range n).map z).getD k 0 = z k := by
        rw [List.getD_eq_getElem?_getD, List.getElem?_map, List.getElem?_range hk]; rfl
      show some (Value.int .i64 (z k)) = some (Value.int .i64 (((List.range n).map z).getD k 0))
      rw [e]
    refine ⟨(A1, c1, A2, c2, ⟨s, (List.range n1).map z1, (List.range n2).map z2, intOf (V i 3), intOf (V i 4), intOf (V i 5), bo⟩), fun k hk => ?_, li _ _ _ r1, li _ _ _ r2⟩
    have hl1 : ((List.range n1).map z1).length = n1 := by simp
    have hl2 : ((List.range n2).map z2).length = n2 := by simp
    rcases (by omega : k = 0 ∨ k = 1 ∨ k = 2 ∨ k = 3 ∨ k = 4 ∨ k = 5 ∨ k = 6) with rfl | rfl | rfl | rfl | rfl | rfl | rfl
    · exact e0
    · rw [e1]; show Value.slice A1 n1 c1 = Value.slice A1 ((List.range n1).map z1).length c1; rw [hl1]
    · rw [e2]; show Value.slice A2 n2 c2 = Value.slice A2 ((List.range n2).map z2).length c2; rw [hl2]
    · exact e3
    · exact e4
    · exact e5
    · exact e6
  haveI : Inhabited Rac := ⟨ra0⟩
  obtain ⟨q, hq⟩ := Deep.choose_lt key
  obtain ⟨f, hf⟩ : ∃ f : Nat → Rac, f = fun k => (q k).2.2.2.2 := ⟨_, rfl⟩
  have hl : ((List.range n).map f).length = n := by simp
  have hg : ∀ k, k < n → (⟨(List.range n).map f, last, toil⟩ : Rit).ac k = f k := fun k hk => by
    unfold Rit.ac
    show ((List.range n).map f).getD k ra0 = f k
    rw [List.getD_eq_getElem?_getD, List.getElem?_map, List.getElem?_range hk]; rfl
  have hn2 : (⟨(List.range n).map f, last, toil⟩ : Rit).n = n := hl
  refine ⟨⟨A, c, fun k => (q k).1, fun k => (q k).2.1, fun k => (q k).2.2.1, fun k => (q k).2.2.2.1⟩, (List.range n).map f, by rw [hl], by rw [hl]; exact hn, ⟨?_, fun k hk => ?_, fun k hk => ?_⟩⟩
  · rw [hn2]
    refine fun hn0 => ?_
    obtain ⟨b, off, hA, hb, hc⟩ := hE hn0
    refine ⟨b, off, hA, hb, fun k i hk hi => ?_⟩
    refine (hc k i hk hi).trans ?_
    show _ = some (acV (Rit.ac _ k) (q k).1 (q k).2.1 (q k).2.2.1 (q k).2.2.2.1 i)
    rw [hg k hk, hf, (hq k hk).1 i hi]
  · rw [hn2] at hk
    rw [hg k hk, hf]
    exact (hq k hk).2.1
  · rw [hn2] at hk
    rw [hg k hk, hf]
    exact (hq k hk).2.2
/-- a rite -/
theorem open_riteV (hval : Value.okWide Tryd.prog W r b0 24 v) (h : DataW.Trod enc Tryd.prog W 0 (fun _ => true) true 24 v d p) (hlt : ∀ x ∈ p, x.block < W.heap.size) :
    ∃ (dd : Rad) (s : Rit), v = .agg #[.slice dd.A s.n dd.c, .int .i64 s.last, .int .i64 s.toil] ∧ s.n ≤ maxLen ∧ RtR W dd s ∧ (-9223372036854775808 ≤ s.last ∧ s.last ≤ 9223372036854775807) ∧ -9223372036854775808 ≤ s.toil ∧ s.toil ≤ 9223372036854775807 := by
  obtain ⟨cs, rfl, hsz⟩ := okWide_struct Tryd.underlying24 hval
  obtain ⟨a, b, c, rfl⟩ : ∃ a b c, cs = #[a, b, c] := by
    have hsz := hsz.trans (show _ = 3 by kernel_rfl)
    rcases cs with ⟨l⟩
    match l, hsz with
    | [a, b, c], _ => exact ⟨a, b, c, rfl⟩
  obtain ⟨fuel, h⟩ := h
  have h' : DataW.trod enc Tryd.prog W 0 (fun _ => true) true fuel 24 [a, b, c] = some (d, p) := h
  obtain ⟨xs, m, -, hxy, -, hxl, hf⟩ := DataW.trod_struct Tryd.underlying24 h'
  have g0 := hf 0 _ rfl
  have g1 := hf 1 _ rfl
  have g2 := hf 2 _ rfl
  rw [List.getElem?_eq_getElem (by rw [hxl]; decide)] at g0 g1 g2
  have k0 : DataW.trod enc Tryd.prog W 0 (fun _ => true) true m 22 [a] = _ := g0
  have k1 : DataW.trod enc Tryd.prog W 0 (fun _ => true) true m 3 [b] = _ := g1
  have k2 : DataW.trod enc Tryd.prog W 0 (fun _ => true) true m 3 [c] = _ := g2
  obtain ⟨e1, b1⟩ := int_of_trod Tryd.underlying3 k1
  obtain ⟨e2, b2⟩ := int_of_trod Tryd.underlying3 k2
  simp only [Prod.mk.injEq] at hxy
  obtain ⟨dd, l, e0, l0, r0⟩ := open_acts k0 (fun y hy => hlt y (by
    rw [hxy.2]
    exact List.mem_flatMap.2 ⟨_, List.getElem_mem _, hy⟩)) (intOf b) (intOf c)
  refine ⟨dd, ⟨l, intOf b, intOf c⟩, ?_, l0, r0, b1, b2⟩
  show _ = Value.agg #[.slice dd.A l.length dd.c, .int .i64 (intOf b), .int .i64 (intOf c)]
  rw [← e0, ← e1, ← e2]
theorem open_deedsV (hval : Value.okWide Tryd.prog W r b0 25 v) (h : DataW.Trod enc Tryd.prog W 0 (fun _ => true) true 25 v d p) (hlt : ∀ x ∈ p, x.block < W.heap.size) :
    ∃ (A : Option Addr) (c : Nat) (l : List (Int × Int)), v = .slice A l.length c ∧ (l.length ≤ maxLen ∧ l.length ≤ c) ∧ DsR W A l ∧ ∀ t ∈ l, (-9223372036854775808 ≤ t.1 ∧ t.1 ≤ 9223372036854775807) ∧ -9223372036854775808 ≤ t.2 ∧ t.2 ≤ 9223372036854775807 := by
  obtain ⟨fuel, h⟩ := h
  obtain ⟨A, n, c, rfl⟩ := okWide_slice Tryd.underlying25 hval
  rw [cells_slice] at h
  exact open_deeds h hlt
theorem open_intV (hval : Value.okWide Tryd.prog W r b0 3 v) (h : DataW.Trod enc Tryd.prog W 0 (fun _ => true) true 3 v d p) : ∃ x, v = .int .i64 x ∧ -9223372036854775808 ≤ x ∧ x ≤ 9223372036854775807 := by
  obtain ⟨z, rfl, rfl, rfl, -⟩ := open_int Tryd.underlying3 hval h
  obtain ⟨fuel, h⟩ := h
  have e := int_of_trod Tryd.underlying3 h
  exact ⟨z, rfl, e.2⟩
end
end Go.Proofs.YtcgdalabenflmaaDoor
/- Rite, plain: a deed more; what is open, forgotten, hopeless. -/
namespace Go.Proofs.YtcgdalabenflmaaDoor
open Go Go.RowKit
set_option maxRecDepth 100000
theorem fol_step {r : Rit} {m : Mom} {y : Int × Int} (l : List (Int × Int)) (i : Nat) (h1 : ¬ (y.1 < m.day ∨ r.last < y.1)) (h2 : ¬ brF r (m.on y.1).d (m.on y.1).day (m.on y.1).de y.2 ≠ 0) : folF r m (y :: l) i = folF r ((m.on y.1).wi y.2.toNat) l (i + 1) := by
  show (if _ then _ else if _ then _ else _) = _
  rw [if_neg h1, if_neg h2]
theorem fol_zero {r : Rit} {m : Mom} {y : Int × Int} {l : List (Int × Int)} {i : Nat} (h : (folF r m (y :: l) i).2.2 = 0) : ¬ (y.1 < m.day ∨ r.last < y.1) ∧ ¬ brF r (m.on y.1).d (m.on y.1).day (m.on y.1).de y.2 ≠ 0 := by
  unfold folF at h
  split at h
  · cases h
  · rename_i h1
    split at h
    · rename_i h2; exact absurd h h2
    · rename_i h2; exact ⟨h1, h2⟩
theorem fol_append {r : Rit} (x : List (Int × Int)) : ∀ (l : List (Int × Int)) (m : Mom) (i : Nat), (folF r m l i).2.2 = 0 → folF r m (l ++ x) i = folF r (folF r m l i).1 x (i + l.length)
  | [], m, i, _ => rfl
  | y :: l, m, i, h => by
    obtain ⟨h1, h2⟩ := fol_zero h
    rw [fol_step _ _ h1 h2] at h ⊢
    show folF r m (y :: (l ++ x)) i = _
    rw [fol_step _ _ h1 h2, fol_append x l _ _ h, show i + 1 + l.length = i + (y :: l).length by rw [List.length_cons]; omega]
/-- a deed more -/
theorem rg_more {r : Rit} {l : List (Int × Int)} (h : rgB r l = true) (day : Int) (a : Int) (h1 : (folF r m0 l 0).1.day ≤ day) (h2 : day ≤ r.last) :
    rgB r (l ++ [(day, a)]) = decide (brF r ((folF r m0 l 0).1.on day).d ((folF r m0 l 0).1.on day).day ((folF r m0 l 0).1.on day).de a = 0) := by
  obtain ⟨hr, hf, -⟩ := rg_yes h
  unfold rgB aftC
  rw [if_pos hr, fol_append _ _ _ _ hf]
  generalize (folF r m0 l 0).1 = m at h1
  have e : (folF r m [(day, a)] (0 + l.length)).2.2 = brF r (m.on day).d (m.on day).day (m.on day).de a := by
    unfold folF
    rw [if_neg (by dsimp only; omega)]
    dsimp only
    split
    · rfl
    · rename_i hb
      have hb := Classical.not_not.1 hb
      rw [hb]
      rfl
  rw [e]
  by_cases hb : brF r (m.on day).d (m.on day).day (m.on day).de a = 0
  · rw [if_pos hb, decide_eq_true hb]; rfl
  · rw [if_neg hb, decide_eq_false hb]; rfl
theorem of_cont {s : Nat} (hs : s < 65536) (i : Nat) : (ofN (elS s)).contains (i : Int) = s.testBit i := by
  rw [Bool.eq_iff_iff, List.contains_iff_mem, ← elS_mem hs]
  unfold ofN
  rw [List.mem_map]
  constructor
  · rintro ⟨k, hk, e⟩
    rw [show i = k by omega]
    exact hk
  · exact fun h => ⟨i, h, rfl⟩
theorem ne_cont {r : Rit} (h16 : r.n ≤ 16) (m : Mom) (i : Nat) : (ofN (elS (neS r m))).contains (i : Int) = decide (brF r m.d m.day m.de i = 0) := by
  have hl : neS r m < 65536 := lt16 (mkS_lt _ r.n) h16
  rw [of_cont hl, Bool.eq_iff_iff, decide_eq_true_iff, ← neS_mem h16, elS_mem hl]
theorem se_cont {r : Rit} (hr : RiOk r) (d : Nat) {i : Nat} (hi : i < r.n) : (ofN (elS (seS r d))).contains (i : Int) = seB r d i := by
  rw [of_cont (seS_lt hr d), seS_bit, decide_eq_true hi, Bool.true_and]
theorem fo_cont {r : Rit} (h16 : r.n ≤ 16) (d : Nat) (day : Int) {i : Nat} (hi : i < r.n) : (ofN (elS (foS r d day))).contains (i : Int) = foB r d day i := by
  have hl : foS r d day < 65536 := lt16 (mkS_lt _ r.n) h16
  rw [of_cont hl, foS_bit, decide_eq_true hi, Bool.true_and]
theorem hp_cont (r : Rit) (m : Mom) (i : Nat) : (ofN (elS (hpS r m))).contains (i : Int) = (hpS r m).testBit i := of_cont (hp_lt r m) i
/-- what a deed that breaks no rule shows -/
theorem br_zero {r : Rit} {d : Nat} {day de : Int} {a : Nat} (h : brF r d day de a = 0) : (d.testBit a = false ∧ ((r.ac a).ex = true ∨ seB r d a = false)) ∧ (r.ac a).fr ≤ day ∧ day ≤ (r.ac a).to_ ∧ neB r d a = true ∧ de < r.toil := by
  unfold brF at h
  rw [Int.toNat_natCast] at h
  split at h
  · cases h
  · split at h
    · cases h
    · rename_i h2
      split at h
      · cases h
      · rename_i h3
        split at h
        · cases h
        · rename_i h4
          split at h
          · cases h
          · split at h
            · cases h
            · rename_i h6
              simp only [Bool.or_eq_true, Bool.and_eq_true, Bool.not_eq_true', not_or, not_and] at h2
              refine ⟨⟨by simpa using h2.1, ?_⟩, by omega, by omega, by simpa using h4, by omega⟩
              rcases hx : (r.ac a).ex with _ | _
              · have := h2.2 hx; exact .inr (by simpa using this)
              · exact .inl rfl
theorem fo_facts {r : Rit} {d : Nat} {day de : Int} {a : Nat} (h : foB r d day a = true) : brF r d day de a ≠ 0 ∧ seB r d a = false ∧ (r.ac a).ex = false := by
  unfold foB at h
  rw [Bool.and_eq_true, Bool.and_eq_true] at h
  obtain ⟨⟨h1, h2⟩, h3⟩ := h
  refine ⟨fun hb => ?_, by simpa using h3, by simpa using h1⟩
  have h4 := (br_zero hb).2.2.1
  have h5 := of_decide_eq_true h2
  omega
theorem hp_facts {r : Rit} (hr : RiOk r) {m : Mom} {a : Nat} (h : (hpS r m).testBit a = true) : a < r.n ∧ brF r m.d m.day m.de a ≠ 0 ∧ seB r m.d a = false := by
  have hh := hp_ho r m
  have h10 := hr.n10
  have hp : 2 ^ r.n < 65536 := Nat.lt_of_le_of_lt (Nat.pow_le_pow_right (by decide) h10) (by decide)
  have hsub : ∀ i, (hpS r m).testBit i = true → i < r.n ∧ seB r m.d i = false := fun i hi => by
    have h1 := hh.sub i hi
    rw [anN_bit _ _ _ (by omega), Bool.and_eq_true, Nat.testBit_two_pow_sub_one] at h1
    have h2 := of_decide_eq_true h1.1
    have h3 := h1.2
    rw [seS_bit, decide_eq_true h2, Bool.true_and] at h3
    exact ⟨h2, by simpa using h3⟩
  obtain ⟨ha, hs⟩ := hsub a h
  refine ⟨ha, fun hb => ?_, hs⟩
  obtain ⟨-, -, h2, h3, -⟩ := br_zero hb
  have h4 := hh.sta a h
  unfold canB at h4
  have h5 := List.any_eq_false.1 h4 a (List.mem_range.2 ha)
  refine h5 ?_
  rw [Bool.and_eq_true, Bool.and_eq_true]
  refine ⟨?_, ?_, ?_⟩
  · unfold waS
    rw [mkS_bit, decide_eq_true (by omega), decide_eq_true rfl]
    rfl
  · rw [decide_eq_false (by omega)]; rfl
  · rw [List.all_eq_true]
    intro x hx
    unfold neB at h3
    have h6 := List.all_eq_true.1 h3 x hx
    rcases hb2 : (hpS r m).testBit x.toNat with _ | _
    · rfl
    · rw [(hsub _ hb2).2] at h6; cases h6
end Go.Proofs.YtcgdalabenflmaaDoor
/- Rite, plain: what the fewest deeds do: they complete the rite, none of them can be left out, a later day has no fewer; a hopeless act is never settled. -/
namespace Go.Proofs.YtcgdalabenflmaaDoor
open Go Go.RowKit
set_option maxRecDepth 100000
theorem on_day (m : Mom) (x : Int) : (m.on x).day = x := by
  unfold Mom.on
  split
  · rename_i h; exact h.symm
  · rfl
theorem on_same (m : Mom) : m.on m.day = m := by unfold Mom.on; rw [if_pos rfl]
theorem on_on {m : Mom} {a b : Int} (h1 : m.day ≤ a) (h2 : a ≤ b) : (m.on a).on b = m.on b := by
  by_cases e : a = m.day
  · subst e; rw [on_same]
  · have e1 : m.on a = ⟨m.d, a, 0⟩ := by unfold Mom.on; rw [if_neg e]
    rw [e1]
    unfold Mom.on
    dsimp only
    by_cases e2 : b = a
    · subst e2; rw [if_pos rfl, if_neg e]
    · rw [if_neg e2, if_neg (by omega)]
/-- a course from a moment on keeps all rules, and completes the rite -/
def Dones (r : Rit) (m : Mom) (x : List (Int × Int)) (i : Nat) : Prop := (folF r m x i).2.2 = 0 ∧ coB r (folF r m x i).1.d = true
theorem dones_on {r : Rit} {m : Mom} {day : Int} (h1 : m.day ≤ day) {x : List (Int × Int)} (hx : ∀ y ∈ x, day ≤ y.1) (i : Nat) : Dones r (m.on day) x i ↔ Dones r m x i := by
  cases x with
  | nil =>
    show ((0 : Int) = 0 ∧ coB r (m.on day).d = true) ↔ ((0 : Int) = 0 ∧ coB r m.d = true)
    rw [on_d]
  | cons y l =>
    have hy := hx y (List.mem_cons_self ..)
    unfold Dones
    rw [folF, folF, on_day, on_on h1 hy]
    by_cases hl : r.last < y.1
    · rw [if_pos (.inr hl), if_pos (.inr hl)]
      exact ⟨fun h => (by have := h.1; cases this), fun h => (by have := h.1; cases this)⟩
    · rw [if_neg (show ¬ (y.1 < day ∨ r.last < y.1) by omega), if_neg (show ¬ (y.1 < m.day ∨ r.last < y.1) by omega)]
theorem fw_next {r : Rit} (hn : r.n ≤ 16) {m : Mom} (hd : m.day < r.last) : fwN r m ≤ fwN r (m.on (m.day + 1)) := by
  rw [fwN_eq hn m]
  by_cases hc : coB r m.d = true
  · rw [if_pos hc]; exact Nat.zero_le _
  · rw [if_neg hc, if_pos hd]
    exact foldl_min_le _ _ _
/-- a later day has no fewer -/
theorem fw_on {r : Rit} (hn : r.n ≤ 16) : ∀ (k : Nat) (m : Mom) (x : Int), m.day ≤ x → x ≤ r.last → (x - m.day).toNat ≤ k → fwN r m ≤ fwN r (m.on x)
  | 0, m, x, h1, h2, hk => by
    obtain rfl : x = m.day := by omega
    rw [on_same]
    exact Nat.le_refl _
  | k + 1, m, x, h1, h2, hk => by
    by_cases e : x = m.day
    · subst e; rw [on_same]; exact Nat.le_refl _
    · have h3 := fw_on hn k (m.on (m.day + 1)) x (by rw [on_day]; omega) h2 (by rw [on_day]; omega)
      rw [on_on (by omega) (by omega)] at h3
      exact Nat.le_trans (fw_next hn (by omega)) h3
theorem fw_mono {r : Rit} (hn : r.n ≤ 16) {m : Mom} {x y : Int} (h0 : m.day ≤ x) (h1 : x ≤ y) (h2 : y ≤ r.last) : fwN r (m.on x) ≤ fwN r (m.on y) := by
  have h := fw_on hn _ (m.on x) y (by rw [on_day]; exact h1) h2 (Nat.le_refl _)
  rw [on_on h0 h1] at h
  exact h
/-- no course has fewer -/
theorem fw_course {r : Rit} (hn : r.n ≤ 16) : ∀ (x : List (Int × Int)) (m : Mom) (i : Nat), Dones r m x i → fwN r m ≤ x.length
  | [], m, i, h => by
    rw [(fw_zero hn m).2 h.2]
    exact Nat.zero_le _
  | y :: l, m, i, h => by
    obtain ⟨h1, h2⟩ := fol_zero h.1
    have hs := fol_step l i h1 h2
    have h3 : Dones r ((m.on y.1).wi y.2.toNat) l (i + 1) := by unfold Dones at h ⊢; rw [← hs]; exact h
    have h4 := fw_course hn l _ _ h3
    have hb : brF r (m.on y.1).d (m.on y.1).day (m.on y.1).de y.2 = 0 := Classical.not_not.1 h2
    have hr := br_range hb
    have hm : y.2.toNat ∈ elS (neS r (m.on y.1)) := (neS_mem hn).2 (by rw [Int.toNat_of_nonneg hr.1]; exact hb)
    have h5 : fwN r (m.on y.1) ≤ 1 + fwN r ((m.on y.1).wi y.2.toNat) := by
      rw [fwN_eq hn (m.on y.1)]
      by_cases hc : coB r (m.on y.1).d = true
      · rw [if_pos hc]; exact Nat.zero_le _
      · rw [if_neg hc]
        exact foldl_min_mem (fun a => 1 + fwN r ((m.on y.1).wi a)) _ _ _ hm
    have h6 := fw_on hn _ m y.1 (by omega) (by omega) (Nat.le_refl _)
    rw [List.length_cons]
    omega
/-- the list of the fewest completes the rite -/
theorem rp_right {r : Rit} (hn : r.n ≤ 16) : ∀ (k : Nat) (m : Mom) (v i : Nat), meN r m ≤ k → fwN r m = v → v < 11 → m.day ≤ r.last → Dones r m (rpL r m v) i ∧ ∀ y ∈ rpL r m v, m.day ≤ y.1 := by
  intro k
  induction k with
  | zero =>
    intro m v i hm h h1 hd
    rcases Nat.eq_zero_or_pos v with h0 | h0
    · subst h0
      exact ⟨⟨rfl, (fw_zero hn m).1 h⟩, fun y hy => by cases hy⟩
    · rcases fw_step hn h h0 h1 with ⟨a, ha, -⟩ | ⟨hd, -⟩
      · have := me_wi ((neS_mem hn).1 ha); omega
      · have := me_on hd; omega
  | succ k ih =>
    intro m v i hm h h1 hd
    rcases Nat.eq_zero_or_pos v with h0 | h0
    · subst h0
      exact ⟨⟨rfl, (fw_zero hn m).1 h⟩, fun y hy => by cases hy⟩
    · cases hf : (elS (neS r m)).find? (fun a => decide (fwN r (m.wi a) = v - 1)) with
      | some a =>
        have h2 : fwN r (m.wi a) = v - 1 := of_decide_eq_true (List.find?_some (p := fun a => decide (fwN r (m.wi a) = v - 1)) hf)
        have hb := (neS_mem hn).1 (List.mem_of_find?_eq_some hf)
        have h3 := me_wi hb
        obtain ⟨h4, h5⟩ := ih (m.wi a) (v - 1) (i + 1) (by omega) h2 (by omega) hd
        rw [rp_some hn h0 hf]
        refine ⟨?_, fun y hy => ?_⟩
        · unfold Dones
          rw [fol_step (y := (m.day, (a : Int))) _ _ (by dsimp only; omega) (by dsimp only; rw [on_same]; exact fun h => h hb)]
          dsimp only
          rw [on_same, Int.toNat_natCast]
          exact h4
        · rcases List.mem_cons.1 hy with rfl | hy
          · exact Int.le_refl _
          · exact h5 y hy
      | none =>
        rcases fw_step hn h h0 h1 with ⟨a, ha, h2⟩ | ⟨hd2, h2⟩
        · have h3 := List.find?_eq_none.1 hf a ha
          simp [h2] at h3
        · rw [rp_none h0 hd2 hf]
          have hme := me_on hd2
          obtain ⟨h4, h5⟩ := ih (m.on (m.day + 1)) v i (by omega) h2 h1 (by rw [on_day]; omega)
          rw [on_day] at h5
          exact ⟨(dones_on (by omega) (fun y hy => by have := h5 y hy; omega) i).1 h4, fun y hy => by have := h5 y hy; omega⟩
/-- acts that are lost: none is settled, and none has a way -/
def LostS (r : Rit) (d : Nat) (day : Int) (X : Nat) : Prop := (∀ i, X.testBit i = true → i < r.n ∧ seB r d i = false) ∧ StaS r day X
theorem hp_lost {r : Rit} (hr : RiOk r) (m : Mom) : LostS r m.d m.day (hpS r m) :=
  ⟨fun i hi => by have h := hp_facts hr hi; exact ⟨h.1, h.2.2⟩, (hp_ho r m).sta⟩
theorem can_day {r : Rit} {a b : Int} (h : a ≤ b) {X i : Nat} (hc : canB r b X i = true) : canB r a X i = true := by
  unfold canB at hc ⊢
  obtain ⟨k, hk, h2⟩ := List.any_eq_true.1 hc
  rw [Bool.and_eq_true, Bool.and_eq_true] at h2
  refine List.any_eq_true.2 ⟨k, hk, ?_⟩
  rw [Bool.and_eq_true, Bool.and_eq_true]
  refine ⟨h2.1, ?_, h2.2.2⟩
  have h3 := h2.2.1
  by_cases h4 : (r.ac k).to_ < b
  · rw [decide_eq_true h4] at h3; cases h3
  · rw [decide_eq_false (by omega)]; rfl
theorem se_or {r : Rit} (hr : RiOk r) {i : Nat} (hi : i < r.n) {d a : Nat} (hd : d < 65536) (ha : a < 16) (h : seB r d i = false) (hw : (waS r i).testBit a = false) : seB r (d ||| 2 ^ a) i = false := by
  have hd2 : d ||| 2 ^ a < 65536 := by
    show d ||| 2 ^ a < 2 ^ 16
    exact Nat.or_lt_two_pow hd (Nat.pow_lt_pow_right (by decide) ha)
  rw [← Bool.not_eq_true]
  intro hs
  have h1 := (wa_se hr hi _ hd2).2 hs
  apply h1
  have h2 : waS r i &&& d = 0 := by
    rcases Nat.eq_zero_or_pos (waS r i &&& d) with h3 | h3
    · exact h3
    · have := (wa_se hr hi d hd).1 (by omega); rw [h] at this; cases this
  rw [and_zero] at h2 ⊢
  intro k hk
  rw [Nat.testBit_or, h2 k hk, Nat.testBit_two_pow, Bool.false_or]
  by_cases e : a = k
  · subst e; rw [hk] at hw; cases hw
  · exact decide_eq_false e
theorem lost_step {r : Rit} (hr : RiOk r) {m : Mom} {X : Nat} (hm : m.d < 65536) (h : LostS r m.d m.day X) {a : Nat} (hb : brF r m.d m.day m.de a = 0) : LostS r (m.wi a).d (m.wi a).day X := by
  refine ⟨fun i hi => ⟨(h.1 i hi).1, ?_⟩, h.2⟩
  have ha := (br_undone hb).1
  have h10 := hr.n10
  obtain ⟨-, -, h2, h3, -⟩ := br_zero hb
  refine se_or hr (h.1 i hi).1 hm (by omega) (h.1 i hi).2 ?_
  rcases hw : (waS r i).testBit a with _ | _
  · rfl
  · exfalso
    have hs := h.2 i hi
    have hc : canB r m.day X i = true := by
      unfold canB
      refine List.any_eq_true.2 ⟨a, List.mem_range.2 ha, ?_⟩
      rw [Bool.and_eq_true, Bool.and_eq_true]
      refine ⟨hw, by rw [decide_eq_false (by omega)]; rfl, List.all_eq_true.2 fun x hx => ?_⟩
      have h6 := List.all_eq_true.1 h3 x hx
      rcases hb2 : X.testBit x.toNat with _ | _
      · rfl
      · rw [(h.1 _ hb2).2] at h6; cases h6
    rw [hs] at hc
    cases hc
/-- what is lost stays lost -/
theorem lost_course {r : Rit} (hr : RiOk r) {X : Nat} : ∀ (x : List (Int × Int)) (m : Mom) (i : Nat), m.d < 65536 → LostS r m.d m.day X → (folF r m x i).2.2 = 0 → LostS r (folF r m x i).1.d (folF r m x i).1.day X
  | [], m, i, _, h, _ => h
  | y :: l, m, i, hm, h, hf => by
    obtain ⟨h1, h2⟩ := fol_zero hf
    have hb : brF r (m.on y.1).d (m.on y.1).day (m.on y.1).de y.2 = 0 := Classical.not_not.1 h2
    have hr1 := br_range hb
    have h10 := hr.n10
    rw [fol_step l i h1 h2] at hf ⊢
    have hl : LostS r (m.on y.1).d (m.on y.1).day X := by
      rw [on_d, on_day]
      refine ⟨h.1, fun k hk => ?_⟩
      rcases hc : canB r y.1 X k with _ | _
      · rfl
      · have h5 := can_day (show m.day ≤ y.1 by omega) hc
        rw [h.2 k hk] at h5
        cases h5
    refine lost_course hr l _ _ ?_ (lost_step hr (by rw [on_d]; exact hm) hl (by rw [Int.toNat_of_nonneg hr1.1]; exact hb)) hf
    show (m.on y.1).d ||| 2 ^ y.2.toNat < 2 ^ 16
    rw [on_d]
    exact Nat.or_lt_two_pow hm (Nat.pow_lt_pow_right (by decide) (by omega))
theorem co_se {r : Rit} {d : Nat} (h : coB r d = true) {i : Nat} (hi : i < r.n) : (r.ac i).ex = true ∨ seB r d i = true := by
  have h1 := List.all_eq_true.1 h i (List.mem_range.2 hi)
  rw [Bool.or_eq_true] at h1
  exact h1
/-- where the rite can be completed no act that must be done is hopeless -/
theorem fw_hope {r : Rit} (hr : RiOk r) {m : Mom} (hm : m.d < 65536) (hd : m.day ≤ r.last) (h : fwN r m < 11) {i : Nat} (hi : (hpS r m).testBit i = true) : (r.ac i).ex = true := by
  have hn : r.n ≤ 16 := by have := hr.n10; omega
  obtain ⟨⟨h1, h2⟩, -⟩ := rp_right hn _ m _ 0 (Nat.le_refl _) rfl h hd
  have h3 := lost_course hr _ m 0 hm (hp_lost hr m) h1
  obtain ⟨h4, h5⟩ := h3.1 i hi
  rcases co_se h2 h4 with h6 | h6
  · exact h6
  · rw [h5] at h6; cases h6
/-- behind a right course: right and whole, from the moment on -/
theorem rg_dones {r : Rit} {l : List (Int × Int)} (h : rgB r l = true) (x : List (Int × Int)) : (rgB r (l ++ x) = true ∧ coB r (folF r m0 (l ++ x) 0).1.d = true) ↔ Dones r (folF r m0 l 0).1 x (0 + l.length) := by
  obtain ⟨hr, hf, -⟩ := rg_yes h
  unfold Dones rgB aftC
  rw [if_pos hr, fol_append _ _ _ _ hf, decide_eq_true_iff]
  constructor
  · rintro ⟨h1, h2⟩
    refine ⟨?_, h2⟩
    split at h1
    · assumption
    · cases h1
  · rintro ⟨h1, h2⟩
    rw [if_pos h1]
    exact ⟨rfl, h2⟩
/-- the deeds that Repair finds -/
theorem repair_whole {r : Rit} {l : List (Int × Int)} (hr : RiOk r) (h : rgB r l = true) {day : Int} (h0 : (folF r m0 l 0).1.day ≤ day) (h1 : day ≤ r.last) (hv : fwN r ((folF r m0 l 0).1.on day) < 11) :
    (rgB r (l ++ rpL r ((folF r m0 l 0).1.on day) (fwN r ((folF r m0 l 0).1.on day))) = true ∧ coB r (folF r m0 (l ++ rpL r ((folF r m0 l 0).1.on day) (fwN r ((folF r m0 l 0).1.on day))) 0).1.d = true) ∧
      (∀ y ∈ rpL r ((folF r m0 l 0).1.on day) (fwN r ((folF r m0 l 0).1.on day)), day ≤ y.1) ∧
      ∀ less : List (Int × Int), (∀ y ∈ less, day ≤ y.1) → less.length < (rpL r ((folF r m0 l 0).1.on day) (fwN r ((folF r m0 l 0).1.on day))).length → ¬ (rgB r (l ++ less) = true ∧ coB r (folF r m0 (l ++ less) 0).1.d = true) := by
  have hn : r.n ≤ 16 := by have := hr.n10; omega
  generalize hm : (folF r m0 l 0).1 = m at *
  obtain ⟨h2, h3⟩ := rp_right hn _ (m.on day) _ (0 + l.length) (Nat.le_refl _) rfl hv (by rw [on_day]; exact h1)
  rw [on_day] at h3
  have hlen := rp_len hn _ (m.on day) _ (Nat.le_refl _) rfl hv
  refine ⟨(rg_dones h _).2 (by rw [hm]; exact (dones_on h0 h3 _).1 h2), h3, fun less hless hlt hd => ?_⟩
  have h4 := (rg_dones h less).1 hd
  rw [hm] at h4
  have h5 := fw_course hn less _ _ ((dones_on h0 hless _).2 h4)
  omega
end Go.Proofs.YtcgdalabenflmaaDoor
