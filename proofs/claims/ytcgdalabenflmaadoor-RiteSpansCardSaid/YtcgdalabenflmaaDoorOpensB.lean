/- Rite: the list of a set, walked. -/
import Derived.Test.YtcgdalabenflmaaDoorOpensA
import Derived.RangeFuncBox
import Derived.Deep.MidRow
import Derived.Laws.Tables
set_option linter.unusedSimpArgs false
set_option linter.unusedVariables false
set_option linter.unnecessarySimpa false
namespace Go.Proofs.YtcgdalabenflmaaDoor
open Go Go.RowKit Go.Shelf
attribute [local go_sem] Oper.semAt_some
set_option maxHeartbeats 4000000
set_option maxRecDepth 100000
/-- numbers, as they are listed -/
def ofN (l : List Nat) : List Int := l.map fun i : Nat => (i : Int)
theorem el_len (s : Nat) : (elS s).length ≤ 16 := by
  unfold elS
  exact Nat.le_trans (List.length_filter_le _ _) (by simp)
theorem grown_below {n0 : Nat} {w W W' : World} {row : Option Nat} (h : Below n0 w W) (hn : n0 ≤ W.heap.size) (hg : W.grownBy W' row) (hr : ∀ r, row = some r → n0 ≤ r) : Below n0 w W' :=
  h.grown hg hn hr
theorem list_any (s : Nat) (w : World) (hs : s < 65536) (hT : TB w) :
    Calls Tryd.prog 57 #[.int .u16 s] w fun e w' => ∃ v, e = .returned v ∧ OwnJ w' w.heap.size v (ofN (elS s)) ∧ Below w.heap.size w w' := by
  refine (callsIn_wide (n := 9)).1 ?_
  obtain ⟨F, hFw⟩ : ∃ F : Fence, F = Fence.wide := ⟨_, rfl⟩
  rw [← hFw]
  have hF : ∀ f, F.fn f := by rw [hFw]; exact fun _ => trivial
  have hro : F.round = none := by rw [hFw]; rfl
  have hwd : ∀ {n f args w R}, Calls Tryd.prog f args w R → CallsIn F n Tryd.prog f args w R := by rw [hFw]; exact fun h => callsIn_wide.2 h
  clear hFw
  have k0 : Blk (w.alloc (.cells #[.slice none 0 0] 48)) w.heap.size 48 #[.slice none 0 0] := Blk.new w _ _
  have k6 : Below w.heap.size w (w.alloc (.cells #[.slice none 0 0] 48)) := (Below.refl _ _).alloc (Nat.le_refl _) _
  have k7 : TB (w.alloc (.cells #[.slice none 0 0] 48)) := hT.ext k6
  have k8 : (w.alloc (.cells #[.slice none 0 0] 48)).heap.size = w.heap.size + 1 := by simp
  refine callsIn_of_wp_marks Tryd.func57 rfl (hF _) ?_ hro
  simp only [Tryd.ntmps57, List.size_toArray, List.length_cons, List.length_nil, Nat.reduceAdd, Nat.reduceSub, Array.replicate_succ, Array.replicate_zero, List.push_toArray, List.append_toArray, List.nil_append, List.cons_append]
  gi_wp2_with fail
  generalize (w.alloc (.cells #[.slice none 0 0] 48)) = W0 at k0 k6 k7 k8 ⊢
  have hst := all_seq F (9 - 1) hF hro (by omega) hwd s W0 hs
  refine wpIn_rangeFunc_list hro (by omega) (gf := 66) (fs := #[.int .u16 s]) (lb := #[]) rfl (hF _) (enters_of Tryd.func66 (by kernel_rfl) rfl)
    hst (Below.refl _ _) (fun _ => rfl)
    (fun pre W => ∃ A c, Blk W w.heap.size 48 #[.slice A pre.length c] ∧ OwnJ W w.heap.size (.slice A pre.length c) (ofN pre) ∧ TB W ∧ Below w.heap.size w W)
    (fun _ _ _ => False) ?hI (fun pre W h => h.choose_spec.choose_spec.2.2.1) (fun _ _ _ _ _ h _ _ => h) ⟨none, 0, k0, OwnJ.nil _ _, k7, k6⟩
    (fun x => { tmps := #[.int .u16 s, undef, .pointer (some ⟨w.heap.size, 0, none⟩), .int .i64 x, .int .u16 s, .func (.func 66) #[.int .u16 s] #[], .int .i64 x, undef, undef, undef, undef, undef], defers := [] }) ?hassign ?hbody ?hdone ?hstop
  case hI =>
    rintro pre W W' row ⟨A, c, h1, h2, h3, h6⟩ hg hr
    have hr' := fun r e => (hr r e).2
    have hb : Below w.heap.size w W' := h6.trans ⟨hg.os, hg.tape, hg.output, hg.size, fun k hk => hg.block k (by have := h6.size; omega) (fun e => by have := (hr k e.symm).1; omega)⟩
    exact ⟨A, c, h1.keptN hg hr', ownN h2 hg hr', hT.ext hb, hb⟩
  case hassign =>
    intro l x W K hK
    gi_wp2
    exact hK
  case hbody =>
    rintro l pre x W hpre ⟨A, c, h1, h2, h3, h6⟩
    obtain ⟨e1, e2, e3⟩ := blk1 h1
    have hlen : pre.length ≤ 16 := by
      have h := hpre.length_le
      have := el_len s
      simp at h
      omega
    have hol : (ofN pre).length = pre.length := by simp [ofN]
    obtain ⟨v', w', hrun, ho, hg⟩ := h2.push (x : Int) (by rw [hol]; omega) h6.size
    obtain ⟨A', c', rfl⟩ := own_shape ho
    rw [List.length_append, hol] at ho hrun
    have q : Boxed W w.heap.size 48 (.slice A pre.length c) := h1
    obtain ⟨q1, q2, q3, q4, q5⟩ := Boxed.appended (tmp := .cells #[.int .i64 x] 3) (size := 1) q (by decide) h2 h6.size (Nat.le_refl _) ho hg
    have eo : ofN (pre ++ [x]) = ofN pre ++ [(x : Int)] := by simp [ofN]
    obtain ⟨f1, f2, f3⟩ := blk1 (t := 48) q1
    have HRUN := hide hrun
    have HQ := hide (And.intro q2 (And.intro q3 (And.intro q4 q5)))
    have HP := hide (And.intro h3 h6)
    clear hrun q1 q2 q3 q4 q5 ho hg h1 h2 q hst k0 k6 k7 k8
    gi_wp2_with (gi_at_builtin; refine wpListIn_append_run (fun f => hF f) rfl (.tmp 7) (.tmp 9) 48 rfl rfl rfl HRUN.out ?_)
    have hb := HP.out.2.trans HQ.out.2.2.2
    have hl2 : (pre ++ [x]).length = pre.length + 1 := by simp
    show KeepsFrom _ _ _ ∧ True ∧ _
    dsimp only
    rw [hl2]
    refine ⟨HQ.out.2.2.1.from _, trivial, A', c', HQ.out.1, ?_, hT.ext hb, hb⟩
    rw [eo]
    unfold OwnJ
    rw [List.length_append, hol]
    have h9 := HQ.out.2.1
    rw [List.length_append, hol] at h9
    exact h9
  case hdone =>
    rintro D W hD ⟨A, c, h1, h2, h3, h6⟩ hK
    obtain ⟨e1, e2, e3⟩ := blk1 h1
    gi_wp2_with fail
    have hKq := (KeepsOthers.setCell W ⟨w.heap.size, 0, none⟩ (.slice A (elS s).length c)).same D _ hK rfl
    refine ⟨by simp, .inl ⟨_, _, rfl, run_takeDeferred hKq, ?_⟩⟩
    have hgp := grownBy_putObj' (W.setCell ⟨w.heap.size, 0, none⟩ (.slice A (elS s).length c)) D (.deferred none)
    have hP : Blk (W.setCell ⟨w.heap.size, 0, none⟩ (.slice A (elS s).length c)) w.heap.size 48 #[.slice A (elS s).length c] := by simpa using h1.set_ 0 (.slice A (elS s).length c)
    obtain ⟨f1, f2, f3⟩ := blk1 (hP.keptN hgp (fun r e => by cases e; exact ⟨_, hKq, rfl⟩))
    refine ⟨.slice A (elS s).length c, by simp [results, Tryd.results57, go_sem, f2], ?_⟩
    refine ⟨_, rfl, ownN (ownsRow_setCell_other h2 (own_blk_ne h2 h1 (by decide)) _) hgp (fun r e => by cases e; exact ⟨_, hKq, rfl⟩), (h6.setCell (p := ⟨w.heap.size, 0, none⟩) (Nat.le_refl _) _).trans (belowK_b (w := w) (Nat.le_refl _) _ D _ _ (by omega) hKq rfl rfl)⟩
  case hstop =>
    rintro D c pre W hD hSp h hK
    exact h.elim
end Go.Proofs.YtcgdalabenflmaaDoor
/- Rite: a rite and its book as they lie; settled, out. -/
namespace Go.Proofs.YtcgdalabenflmaaDoor
open Go Go.RowKit Go.Shelf
set_option maxHeartbeats 4000000
set_option maxRecDepth 100000
/-- where a rite's acts lie -/
structure Rad where
  A : Option Addr
  c : Nat
  na : Nat → Option Addr
  nc : Nat → Nat
  ia : Nat → Option Addr
  ic : Nat → Nat
def acV (a : Rac) (na : Option Addr) (nc : Nat) (ia : Option Addr) (ic : Nat) (i : Nat) : Value :=
  if i = 0 then .string a.nm else if i = 1 then .slice na a.nd.length nc else if i = 2 then .slice ia a.ins.length ic else if i = 3 then .int .i64 a.at_ else if i = 4 then .int .i64 a.fr else if i = 5 then .int .i64 a.to_ else .bool a.ex
/-- a rite that is read -/
structure RtR (w : World) (d : Rad) (r : Rit) : Prop where
  row : ER w w.heap.size 7 d.A r.n fun k i => acV (r.ac k) (d.na k) (d.nc k) (d.ia k) (d.ic k) i
  nd : ∀ k, k < r.n → LI w w.heap.size (d.na k) (r.ac k).nd
  ins : ∀ k, k < r.n → LI w w.heap.size (d.ia k) (r.ac k).ins
theorem RtR.ext {w w' : World} {d : Rad} {r : Rit} (h : RtR w d r) (hb : Below w.heap.size w w') : RtR w' d r :=
  ⟨(ER.below h.row hb (Nat.le_refl _)).more hb.size, fun k hk => (ER.below (h.nd k hk) hb (Nat.le_refl _)).more hb.size, fun k hk => (ER.below (h.ins k hk) hb (Nat.le_refl _)).more hb.size⟩
theorem RtR.at_ {w : World} {d : Rad} {r : Rit} (h : RtR w d r) {k : Nat} (hk : k < r.n) {a : Rac} (ha : r.ac k = a) :
    ∃ b off, d.A = some ⟨b, off, none⟩ ∧ b < w.heap.size ∧ w.cell? ⟨b, off + k * 7, none⟩ = some (.string a.nm) ∧ w.cell? ⟨b, off + k * 7 + 1, none⟩ = some (.slice (d.na k) a.nd.length (d.nc k)) ∧
      w.cell? ⟨b, off + k * 7 + 2, none⟩ = some (.slice (d.ia k) a.ins.length (d.ic k)) ∧ w.cell? ⟨b, off + k * 7 + 3, none⟩ = some (.int .i64 a.at_) ∧ w.cell? ⟨b, off + k * 7 + 4, none⟩ = some (.int .i64 a.fr) ∧
      w.cell? ⟨b, off + k * 7 + 5, none⟩ = some (.int .i64 a.to_) ∧ w.cell? ⟨b, off + k * 7 + 6, none⟩ = some (.bool a.ex) := by
  obtain ⟨b, off, hA, hlt, hc⟩ := h.row (by omega)
  subst ha
  exact ⟨b, off, hA, hlt, hc k 0 hk (by omega), hc k 1 hk (by omega), hc k 2 hk (by omega), hc k 3 hk (by omega), hc k 4 hk (by omega), hc k 5 hk (by omega), hc k 6 hk (by omega)⟩
/-- where a book's sets lie -/
structure Bad where
  pn : Option Addr
  pw : Option Addr
  pr : Option Addr
  pa : Option Addr
/-- a book that is read -/
structure BkR (w : World) (b : Nat) (d : Rad) (q : Bad) (r : Rit) : Prop where
  blk : Blk w b 88 #[.slice d.A r.n d.c, .int .i64 r.last, .int .i64 r.toil, .slice q.pn r.n r.n, .slice q.pw r.n r.n, .slice q.pr r.n r.n, .slice q.pa r.n r.n, .int .u16 (muS r : Nat)]
  rt : RtR w d r
  sn : ER w w.heap.size 1 q.pn r.n fun k _ => .int .u16 (seL (r.ac k).nd : Nat)
  sw : ER w w.heap.size 1 q.pw r.n fun k _ => .int .u16 (waS r k : Nat)
  sr : ER w w.heap.size 1 q.pr r.n fun k _ => .int .u16 (reS r k : Nat)
  sa : ER w w.heap.size 1 q.pa r.n fun k _ => .int .u16 (atS r k : Nat)
theorem BkR.ext {w w' : World} {b : Nat} {d : Rad} {q : Bad} {r : Rit} (h : BkR w b d q r) (hb : Below w.heap.size w w') : BkR w' b d q r :=
  ⟨h.blk.ext hb, h.rt.ext hb, (ER.below h.sn hb (Nat.le_refl _)).more hb.size, (ER.below h.sw hb (Nat.le_refl _)).more hb.size, (ER.below h.sr hb (Nat.le_refl _)).more hb.size, (ER.below h.sa hb (Nat.le_refl _)).more hb.size⟩
theorem bx8 {w : World} {p : Nat} {t : TypeId} {a b c d e f g h : Value} (k : Blk w p t #[a, b, c, d, e, f, g, h]) : p < w.heap.size ∧ w.cell? ⟨p, 0, none⟩ = some a ∧ w.cell? ⟨p, 1, none⟩ = some b ∧ w.cell? ⟨p, 2, none⟩ = some c ∧ w.cell? ⟨p, 3, none⟩ = some d ∧ w.cell? ⟨p, 4, none⟩ = some e ∧ w.cell? ⟨p, 5, none⟩ = some f ∧ w.cell? ⟨p, 6, none⟩ = some g ∧ w.cell? ⟨p, 7, none⟩ = some h :=
  ⟨k.lt, by rw [k.cell]; rfl, by rw [k.cell]; rfl, by rw [k.cell]; rfl, by rw [k.cell]; rfl, by rw [k.cell]; rfl, by rw [k.cell]; rfl, by rw [k.cell]; rfl, by rw [k.cell]; rfl⟩
theorem mkS_yes {p : Nat → Bool} {k : Nat} (h : p k = true) : mkS p (k + 1) = mkS p k ||| 2 ^ k := by rw [mkS, if_pos h]
theorem mkS_no {p : Nat → Bool} {k : Nat} (h : p k = false) : mkS p (k + 1) = mkS p k := by rw [mkS, if_neg (by rw [h]; decide)]
theorem waS_lt (r : Rit) (i : Nat) : waS r i < 65536 := mkS_lt _ 16
theorem p2_lt {k : Nat} (h : k < 16) : 2 ^ k < 65536 := by
  have : 2 ^ k ≤ 2 ^ 15 := Nat.pow_le_pow_right (by decide) (by omega)
  omega
/-- a set that grows bit by bit -/
theorem mk_or {p : Nat → Bool} {k : Nat} (hk : k < 16) (h : p k = true) : bits BinOp.or IntKind.u16 (mkS p k : Nat) ((2 ^ k : Nat) : Int) = ((mkS p (k + 1) : Nat) : Int) := by
  rw [mkS_yes h, or16 (lt16 (mkS_lt p k) (by omega)) (p2_lt hk)]
theorem settled_any (b : Nat) (d : Rad) (q : Bad) (r : Rit) (s : Nat) (w : World) (hr : RiOk r) (hs : s < 65536) (hB : BkR w b d q r) :
    Calls Tryd.prog 56 #[.pointer (some ⟨b, 0, none⟩), .int .u16 s] w fun e w' => e = .returned (.int .u16 (seS r s : Nat)) ∧ Below w.heap.size w w' := by
  have h10 := hr.n10
  have HR := hide hr
  have HSW := hide hB.sw
  obtain ⟨c9, c0, c1, c2, c3, c4, c5, c6, c7⟩ := bx8 hB.blk
  obtain ⟨n, hn⟩ : ∃ n, r.n = n := ⟨_, rfl⟩
  have HN := hide hn
  rw [hn] at c4 h10
  clear hB hr hn c0 c1 c2 c3 c5 c6 c7
  go_enter Tryd.func56, Tryd.ntmps56
  go_wp2_with fail
  go_loopw [4, 5, 6, 12] (fun a _ _ i wr => ∃ k : Nat, k ≤ n ∧ i = .int .i64 k ∧ a = .int .u16 (mkS (seB r s) k : Nat) ∧ Hid (Below w.heap.size w wr)) (fun _ _ _ i _ => n - (intOf i).toNat)
  case atStart => exact ⟨0, Nat.zero_le _, rfl, rfl, hide (Below.refl _ _)⟩
  case round =>
    obtain ⟨k, hk, rfl, rfl, HB⟩ := hrel
    have hst : IntKind.i64.wrap ((k : Int) + 1) = ((k + 1 : Nat) : Int) := by rw [IntWalk.i64_in _ (by omega)]; omega
    by_cases hlt : k < n
    · have hlt' : (k : Int) < (n : Int) := by omega
      obtain ⟨pb, po, hpw, hpl, hc⟩ := VR1.at_ HSW.out (show k < r.n by rw [HN.out]; exact hlt)
      have hpw2 := hpw
      have hc' : wr.cell? ⟨pb, po + k, none⟩ = some (.int .u16 (waS r k : Nat)) := (HB.out.cell (p := ⟨pb, po + k, none⟩) hpl).trans hc
      have a1 := and16 (waS_lt r k) hs
      have hse := wa_se HR.out (show k < r.n by rw [HN.out]; exact hlt) s hs
      rw [hpw]
      clear hc hpw hpw2
      cases hsb : seB r s k with
      | true =>
        have HSB := hide (mk_or (p := seB r s) (by omega) hsb)
        have hne : waS r k &&& s ≠ 0 := hse.2 hsb
        obtain ⟨z, hz⟩ : ∃ z, waS r k &&& s = z := ⟨_, rfl⟩
        rw [hz] at a1 hne
        have hne2 : ((z : Int) == 0) = false := by rw [beq_eq_false_iff_ne]; omega
        have hne3 : ((z : Int) != 0) = true := by rw [bne_iff_ne]; omega
        have HOF := hide (fun W => of1_any k W (by omega))
        clear hz hse hne hsb
        generalize mkS (seB r s) k = m at HSB ⊢
        obtain ⟨m2, hm2⟩ : ∃ x, mkS (seB r s) (k + 1) = x := ⟨_, rfl⟩
        rw [hm2] at HSB
        have HM2 := hide hm2
        clear hm2
        go_wp2_with fail
        refine (HOF.out _).mono ?_
        rintro e w1 ⟨rfl, hb1⟩
        replace HB := hide (HB.out.trans (hb1.mono HB.out.size))
        clear hb1 HOF
        obtain ⟨P, hP⟩ : ∃ P : Nat, 2 ^ k = P := ⟨_, rfl⟩
        rw [hP] at HSB ⊢
        have a2 := HSB.out
        go_wp2_with fail
        go_roundw
        case rel => exact ⟨k + 1, by omega, by go_num, by rw [HM2.out], HB⟩
        case measure => simp [intOf]; omega
      | false =>
        have HSB := hide (mkS_no hsb)
        have hz0 : waS r k &&& s = 0 := by
          rcases Nat.eq_zero_or_pos (waS r k &&& s) with h | h
          · exact h
          · have := hse.1 (by omega); rw [hsb] at this; cases this
        rw [hz0] at a1
        clear hse hsb hz0
        go_wp2_with fail
        go_roundw
        case rel => exact ⟨k + 1, by omega, by go_num, by rw [HSB.out], HB⟩
        case measure => simp [intOf]; omega
    · obtain rfl : n = k := by omega
      have hnl : ¬ (n : Int) < (n : Int) := by omega
      go_wp2_with fail
      go_ret
      exact ⟨by unfold seS; rw [HN.out]; rfl, HB.out⟩
end Go.Proofs.YtcgdalabenflmaaDoor
/- Rite: out, forgotten, complete, on, with. -/
namespace Go.Proofs.YtcgdalabenflmaaDoor
open List renaming getElem_toArray → glA, getElem_cons_zero → glB, getElem_cons_succ → glC, setIfInBounds_toArray → glD, set_cons_zero → glE, set_cons_succ → glF
open Go Go.RowKit Go.Shelf
set_option maxHeartbeats 8000000
set_option maxRecDepth 100000
theorem out_any (b : Nat) (d : Rad) (q : Bad) (r : Rit) (day : Int) (w : World) (hr : RiOk r) (hB : BkR w b d q r) :
    Calls Tryd.prog 69 #[.pointer (some ⟨b, 0, none⟩), .int .i64 day] w fun e w' => e = .returned (.int .u16 (ouS r day : Nat)) ∧ Below w.heap.size w w' := by
  have h10 := hr.n10
  have HRT := hide hB.rt
  obtain ⟨c9, c0, c1, c2, c3, c4, c5, c6, c7⟩ := bx8 hB.blk
  obtain ⟨n, hn⟩ : ∃ n, r.n = n := ⟨_, rfl⟩
  have HN := hide hn
  rw [hn] at c0 h10
  clear hB hr hn c1 c2 c3 c4 c5 c6 c7
  go_enter Tryd.func69, Tryd.ntmps69
  go_wp2_with fail
  go_loopw [4, 5, 6, 13] (fun a _ _ i wr => ∃ k : Nat, k ≤ n ∧ i = .int .i64 k ∧ a = .int .u16 (mkS (fun i => decide ((r.ac i).to_ < day)) k : Nat) ∧ Hid (Below w.heap.size w wr)) (fun _ _ _ i _ => n - (intOf i).toNat)
  case atStart => exact ⟨0, Nat.zero_le _, rfl, rfl, hide (Below.refl _ _)⟩
  case round =>
    obtain ⟨k, hk, rfl, rfl, HB⟩ := hrel
    have hst : IntKind.i64.wrap ((k : Int) + 1) = ((k + 1 : Nat) : Int) := by rw [IntWalk.i64_in _ (by omega)]; omega
    by_cases hlt : k < n
    · have hlt' : (k : Int) < (n : Int) := by omega
      obtain ⟨a, ha⟩ : ∃ a, r.ac k = a := ⟨_, rfl⟩
      obtain ⟨nm, nd, ins, at_, fr, to_, ex⟩ := a
      obtain ⟨pb, po, hA, hpl, x0, x1, x2, x3, x4, x5, x6⟩ := (HRT.out.ext (HB.out.mono (Nat.le_refl _))).at_ (show k < r.n by rw [HN.out]; exact hlt) ha
      dsimp only at x0 x1 x2 x3 x4 x5 x6
      rw [hA]
      have hto : (r.ac k).to_ = to_ := by rw [ha]
      have HBA := hide (HB.out.alloc HB.out.size (.cells #[.string nm, .slice (d.na k) nd.length (d.nc k), .slice (d.ia k) ins.length (d.ic k), .int .i64 at_, .int .i64 fr, .int .i64 to_, .bool ex] 58))
      have y5 : (wr.alloc (.cells #[.string nm, .slice (d.na k) nd.length (d.nc k), .slice (d.ia k) ins.length (d.ic k), .int .i64 at_, .int .i64 fr, .int .i64 to_, .bool ex] 58)).cell? ⟨wr.heap.size, 5, none⟩ = some (.int .i64 to_) := by rw [cell_new]; rfl
      clear hA ha
      go_upto_region 4 with fail
      clear x0 x1 x2 x3 x4 x5 x6
      generalize wr.alloc (.cells #[.string nm, .slice (d.na k) nd.length (d.nc k), .slice (d.ia k) ins.length (d.ic k), .int .i64 at_, .int .i64 fr, .int .i64 to_, .bool ex] 58) = wa at HBA y5 ⊢
      by_cases hd : to_ < day
      · have hd' : day > to_ := hd
        have HSB := hide (mk_or (p := fun i => decide ((r.ac i).to_ < day)) (k := k) (by omega) (by rw [hto]; exact decide_eq_true hd))
        have HOF := hide (fun W => of1_any k W (by omega))
        clear hto
        generalize mkS (fun i => decide ((r.ac i).to_ < day)) k = m at HSB ⊢
        obtain ⟨m2, hm2⟩ : ∃ x, mkS (fun i => decide ((r.ac i).to_ < day)) (k + 1) = x := ⟨_, rfl⟩
        rw [hm2] at HSB
        have HM2 := hide hm2
        clear hm2
        go_wp2_with fail
        refine (HOF.out _).mono ?_
        rintro e w1 ⟨rfl, hb1⟩
        replace HB := hide (HBA.out.trans (hb1.mono HBA.out.size))
        clear hb1 HOF HBA
        obtain ⟨P, hP⟩ : ∃ P : Nat, 2 ^ k = P := ⟨_, rfl⟩
        rw [hP] at HSB ⊢
        have a2 := HSB.out
        go_wp2_with fail
        go_roundw
        case rel => exact ⟨k + 1, by omega, by go_num, by rw [HM2.out], HB⟩
        case measure => simp [intOf]; omega
      · have hd' : ¬ day > to_ := hd
        have HSB := hide (mkS_no (p := fun i => decide ((r.ac i).to_ < day)) (k := k) (by rw [hto]; exact decide_eq_false hd))
        clear hto
        go_wp2_with fail
        go_roundw
        case rel => exact ⟨k + 1, by omega, by go_num, by rw [HSB.out], HBA⟩
        case measure => simp [intOf]; omega
    · obtain rfl : n = k := by omega
      have hnl : ¬ (n : Int) < (n : Int) := by omega
      go_wp2_with fail
      go_ret
      exact ⟨by unfold ouS; rw [HN.out]; rfl, HB.out⟩
theorem forgotten_any (b : Nat) (d : Rad) (q : Bad) (r : Rit) (s : Nat) (day : Int) (w : World) (hr : RiOk r) (hs : s < 65536) (hB : BkR w b d q r) :
    Calls Tryd.prog 51 #[.pointer (some ⟨b, 0, none⟩), .int .u16 s, .int .i64 day] w fun e w' => e = .returned (.int .u16 (foS r s day : Nat)) ∧ Below w.heap.size w w' := by
  have h10 := hr.n10
  have a1 := and16 (lt16 (show muS r < 2 ^ r.n from mkS_lt _ _) (by omega)) (lt16 (show ouS r day < 2 ^ r.n from mkS_lt _ _) (by omega))
  have a2 := not16 (show muS r &&& ouS r day < 65536 from Nat.lt_of_le_of_lt Nat.and_le_left (lt16 (show muS r < 2 ^ r.n from mkS_lt _ _) (by omega))) (seS_lt hr s)
  rw [fo_eq hr] at a2
  have HO := hide (fun W (h : BkR W b d q r) => out_any b d q r day W hr h)
  have HS := hide (fun W (h : BkR W b d q r) => settled_any b d q r s W hr hs h)
  have HB := hide hB
  have HC : Hid (∀ W, Below w.heap.size w W → W.cell? ⟨b, 7, none⟩ = some (.int .u16 (muS r : Nat))) := hide fun W h => (bx8 (hB.blk.ext h)).2.2.2.2.2.2.2.2
  clear hB hr h10
  generalize ouS r day = o at a1 a2 HO
  generalize seS r s = t at a2 HS
  generalize foS r s day = f at a2 ⊢
  obtain ⟨z, hz⟩ : ∃ z, muS r &&& o = z := ⟨_, rfl⟩
  rw [hz] at a1 a2
  clear hz
  generalize muS r = mu at a1 HC
  go_enter Tryd.func51, Tryd.ntmps51
  go_upto_region 1 with fail
  have Bd := hide (Below.refl w.heap.size w).drew
  refine wp_region_J (fun W : World => W.cell? ⟨b, 7, none⟩ = some (.int .u16 (mu : Nat))) (by kernel_rfl) ?_
  generalize w.drew = wd at Bd ⊢
  refine wpAnyJ_take 0 (v := ?_) (by first | exact hF | exact wideFn) (HC.out _ Bd.out) rfl (by kernel_rfl) (by kernel_rfl) (by kernel_rfl) (by kernel_rfl) rfl ?_ (by first | exact fun _ _ _ h => h | exact fun _ _ _ h => hQ2 _ _ _ _ _ h) ?_
  rotate_left
  · intro W hSW
    simp only [glA, glB, glC]
    (try dsimp only at hSW)
    go_simp
    with_reducible rfl
  (try simp only [glA, glB, glC, Act.put, glD, glE, glF])
  refine wpAnyJ_take 1 (v := ?_) (by first | exact hF | exact wideFn) (HC.out _ Bd.out) rfl (by kernel_rfl) (by kernel_rfl) (by kernel_rfl) (by kernel_rfl) rfl ?_ (by first | exact fun _ _ _ h => h | exact fun _ _ _ h => hQ2 _ _ _ _ _ h) ?_
  rotate_left
  · intro W hSW
    simp only [glA, glB, glC]
    (try dsimp only at hSW)
    go_simp
    with_reducible rfl
  (try simp only [glA, glB, glC, Act.put, glD, glE, glF])
  refine wpAnyJ_take 2 (v := ?_) (by first | exact hF | exact wideFn) (HC.out _ Bd.out) rfl (by kernel_rfl) (by kernel_rfl) (by kernel_rfl) (by kernel_rfl) rfl ?_ (by first | exact fun _ _ _ h => h | exact fun _ _ _ h => hQ2 _ _ _ _ _ h) ?_
  rotate_left
  · intro W hSW
    simp only [glA, glB, glC]
    (try dsimp only at hSW)
    go_simp
    with_reducible rfl
  (try simp only [glA, glB, glC, Act.put, glD, glE, glF])
  refine wpAnyJ_take 3 (v := ?_) (by first | exact hF | exact wideFn) (HC.out _ Bd.out) rfl (by kernel_rfl) (by kernel_rfl) (by kernel_rfl) (by kernel_rfl) rfl ?_ (by first | exact fun _ _ _ h => h | exact fun _ _ _ h => hQ2 _ _ _ _ _ h) ?_
  rotate_left
  · intro W hSW
    simp only [glA, glB, glC]
    (try dsimp only at hSW)
    go_simp
    with_reducible rfl
  (try simp only [glA, glB, glC, Act.put, glD, glE, glF])
  refine wpAnyJ_take 4 (v := ?_) (by first | exact hF | exact wideFn) (HC.out _ Bd.out) rfl (by kernel_rfl) (by kernel_rfl) (by kernel_rfl) (by kernel_rfl) rfl ?_ (by first | exact fun _ _ _ h => h | exact fun _ _ _ h => hQ2 _ _ _ _ _ h) ?_
  rotate_left
  · intro W hSW
    simp only [glA, glB, glC]
    (try dsimp only at hSW)
    go_simp
    with_reducible rfl
  (try simp only [glA, glB, glC, Act.put, glD, glE, glF])
  refine wpAnyJ_take 5 (v := ?_) (by first | exact hF | exact wideFn) (HC.out _ Bd.out) rfl (by kernel_rfl) (by kernel_rfl) (by kernel_rfl) (by kernel_rfl) rfl ?_ (by first | exact fun _ _ _ h => h | exact fun _ _ _ h => hQ2 _ _ _ _ _ h) ?_
  rotate_left
  · intro W hSW
    simp only [glA, glB, glC]
    (try dsimp only at hSW)
    go_simp
    with_reducible rfl
  (try simp only [glA, glB, glC, Act.put, glD, glE, glF])
  refine wpAnyJ_take 8 (v := ?_) (by first | exact hF | exact wideFn) (HC.out _ Bd.out) rfl (by kernel_rfl) (by kernel_rfl) (by kernel_rfl) (by kernel_rfl) rfl ?_ (by first | exact fun _ _ _ h => h | exact fun _ _ _ h => hQ2 _ _ _ _ _ h) ?_
  rotate_left
  · intro W hSW
    simp only [glA, glB, glC]
    (try dsimp only at hSW)
    go_simp
    with_reducible rfl
  (try simp only [glA, glB, glC, Act.put, glD, glE, glF])
  refine wpAnyJ_take 9 (v := ?_) (by first | exact hF | exact wideFn) (HC.out _ Bd.out) rfl (by kernel_rfl) (by kernel_rfl) (by kernel_rfl) (by kernel_rfl) rfl ?_ (by first | exact fun _ _ _ h => h | exact fun _ _ _ h => hQ2 _ _ _ _ _ h) ?_
  rotate_left
  · intro W hSW
    simp only [glA, glB, glC]
    (try dsimp only at hSW)
    go_simp
    with_reducible rfl
  (try simp only [glA, glB, glC, Act.put, glD, glE, glF])
  refine wpAnyJ_one 6 rfl (by kernel_rfl) (fun K hK => ?_)
  simp only [glA, glB, glC]
  go_simp
  refine ⟨trivial, rfl, ?_⟩
  refine (callsIn_wide.2 (HO.out wd (HB.out.ext Bd.out))).mono ?_
  rintro e w1 ⟨rfl, hb1⟩
  have B1 := hide (Bd.out.trans (hb1.mono Bd.out.size))
  dsimp only
  refine hK.out _ _ (fun _ => HC.out _ B1.out) ?_
  clear hK K
  (try simp only [glA, glB, glC, Act.put, glD, glE, glF])
  clear hb1
  refine wpAnyJ_take 7 (v := ?_) (by first | exact hF | exact wideFn) (HC.out _ B1.out) rfl (by kernel_rfl) (by kernel_rfl) (by kernel_rfl) (by kernel_rfl) rfl ?_ (by first | exact fun _ _ _ h => h | exact fun _ _ _ h => hQ2 _ _ _ _ _ h) ?_
  rotate_left
  · intro W hSW
    simp only [glA, glB, glC]
    (try dsimp only at hSW)
    go_simp
    with_reducible rfl
  (try simp only [glA, glB, glC, Act.put, glD, glE, glF])
  refine wpAnyJ_one 10 rfl (by kernel_rfl) (fun K hK => ?_)
  simp only [glA, glB, glC]
  go_simp
  refine ⟨trivial, rfl, ?_⟩
  refine (callsIn_wide.2 (HS.out w1 (HB.out.ext B1.out))).mono ?_
  rintro e w2 ⟨rfl, hb2⟩
  have B2 := hide (B1.out.trans (hb2.mono B1.out.size))
  dsimp only
  refine hK.out _ _ (fun _ => HC.out _ B2.out) ?_
  clear hK K
  (try simp only [glA, glB, glC, Act.put, glD, glE, glF])
  clear hb2
  refine wpAnyJ_take 11 (v := ?_) (by first | exact hF | exact wideFn) (HC.out _ B2.out) rfl (by kernel_rfl) (by kernel_rfl) (by kernel_rfl) (by kernel_rfl) rfl ?_ (by first | exact fun _ _ _ h => h | exact fun _ _ _ h => hQ2 _ _ _ _ _ h) ?_
  rotate_left
  · intro W hSW
    simp only [glA, glB, glC]
    (try dsimp only at hSW)
    go_simp
    with_reducible rfl
  (try simp only [glA, glB, glC, Act.put, glD, glE, glF])
  refine wpAnyJ_take 12 (v := ?_) (by first | exact hF | exact wideFn) (HC.out _ B2.out) rfl (by kernel_rfl) (by kernel_rfl) (by kernel_rfl) (by kernel_rfl) rfl ?_ (by first | exact fun _ _ _ h => h | exact fun _ _ _ h => hQ2 _ _ _ _ _ h) ?_
  rotate_left
  · intro W hSW
    simp only [glA, glB, glC]
    (try dsimp only at hSW)
    go_simp
    with_reducible rfl
  (try simp only [glA, glB, glC, Act.put, glD, glE, glF])
  refine wpAnyJ_done (by kernel_rfl) ?_
  go_wp2_with fail
  go_ret
  exact ⟨rfl, B2.out⟩
theorem complete_any (b : Nat) (d : Rad) (q : Bad) (r : Rit) (s : Nat) (w : World) (hr : RiOk r) (hs : s < 65536) (hB : BkR w b d q r) :
    Calls Tryd.prog 58 #[.pointer (some ⟨b, 0, none⟩), .int .u16 s] w fun e w' => e = .returned (.bool (coB r s)) ∧ Below w.heap.size w w' := by
  have h10 := hr.n10
  have a2 := not16 (lt16 (show muS r < 2 ^ r.n from mkS_lt _ _) (by omega)) (seS_lt hr s)
  have hco := co_iff hr s
  have HS := hide (fun W (h : BkR W b d q r) => settled_any b d q r s W hr hs h)
  have HB := hide hB
  have HC : Hid (∀ W, Below w.heap.size w W → W.cell? ⟨b, 7, none⟩ = some (.int .u16 (muS r : Nat))) := hide fun W h => (bx8 (hB.blk.ext h)).2.2.2.2.2.2.2.2
  clear hB hr h10
  generalize seS r s = t at a2 HS hco
  obtain ⟨z, hz⟩ : ∃ z, anN (muS r) t = z := ⟨_, rfl⟩
  rw [hz] at a2 hco
  clear hz
  generalize muS r = mu at a2 HC
  have HE : Hid (((z : Int) == 0) = coB r s) := hide (by rw [Bool.eq_iff_iff, ← hco]; simp)
  clear hco
  generalize coB r s = cb at HE ⊢
  go_enter Tryd.func58, Tryd.ntmps58
  go_upto_region 1 with fail
  have Bd := hide (Below.refl w.heap.size w).drew
  refine wp_region_J (fun W : World => W.cell? ⟨b, 7, none⟩ = some (.int .u16 (mu : Nat))) (by kernel_rfl) ?_
  generalize w.drew = wd at Bd ⊢
  refine wpAnyJ_take 0 (v := ?_) (by first | exact hF | exact wideFn) (HC.out _ Bd.out) rfl (by kernel_rfl) (by kernel_rfl) (by kernel_rfl) (by kernel_rfl) rfl ?_ (by first | exact fun _ _ _ h => h | exact fun _ _ _ h => hQ2 _ _ _ _ _ h) ?_
  rotate_left
  · intro W hSW
    simp only [glA, glB, glC]
    (try dsimp only at hSW)
    go_simp
    with_reducible rfl
  (try simp only [glA, glB, glC, Act.put, glD, glE, glF])
  refine wpAnyJ_take 1 (v := ?_) (by first | exact hF | exact wideFn) (HC.out _ Bd.out) rfl (by kernel_rfl) (by kernel_rfl) (by kernel_rfl) (by kernel_rfl) rfl ?_ (by first | exact fun _ _ _ h => h | exact fun _ _ _ h => hQ2 _ _ _ _ _ h) ?_
  rotate_left
  · intro W hSW
    simp only [glA, glB, glC]
    (try dsimp only at hSW)
    go_simp
    with_reducible rfl
  (try simp only [glA, glB, glC, Act.put, glD, glE, glF])
  refine wpAnyJ_take 2 (v := ?_) (by first | exact hF | exact wideFn) (HC.out _ Bd.out) rfl (by kernel_rfl) (by kernel_rfl) (by kernel_rfl) (by kernel_rfl) rfl ?_ (by first | exact fun _ _ _ h => h | exact fun _ _ _ h => hQ2 _ _ _ _ _ h) ?_
  rotate_left
  · intro W hSW
    simp only [glA, glB, glC]
    (try dsimp only at hSW)
    go_simp
    with_reducible rfl
  (try simp only [glA, glB, glC, Act.put, glD, glE, glF])
  refine wpAnyJ_take 3 (v := ?_) (by first | exact hF | exact wideFn) (HC.out _ Bd.out) rfl (by kernel_rfl) (by kernel_rfl) (by kernel_rfl) (by kernel_rfl) rfl ?_ (by first | exact fun _ _ _ h => h | exact fun _ _ _ h => hQ2 _ _ _ _ _ h) ?_
  rotate_left
  · intro W hSW
    simp only [glA, glB, glC]
    (try dsimp only at hSW)
    go_simp
    with_reducible rfl
  (try simp only [glA, glB, glC, Act.put, glD, glE, glF])
  refine wpAnyJ_take 4 (v := ?_) (by first | exact hF | exact wideFn) (HC.out _ Bd.out) rfl (by kernel_rfl) (by kernel_rfl) (by kernel_rfl) (by kernel_rfl) rfl ?_ (by first | exact fun _ _ _ h => h | exact fun _ _ _ h => hQ2 _ _ _ _ _ h) ?_
  rotate_left
  · intro W hSW
    simp only [glA, glB, glC]
    (try dsimp only at hSW)
    go_simp
    with_reducible rfl
  (try simp only [glA, glB, glC, Act.put, glD, glE, glF])
  refine wpAnyJ_take 5 (v := ?_) (by first | exact hF | exact wideFn) (HC.out _ Bd.out) rfl (by kernel_rfl) (by kernel_rfl) (by kernel_rfl) (by kernel_rfl) rfl ?_ (by first | exact fun _ _ _ h => h | exact fun _ _ _ h => hQ2 _ _ _ _ _ h) ?_
  rotate_left
  · intro W hSW
    simp only [glA, glB, glC]
    (try dsimp only at hSW)
    go_simp
    with_reducible rfl
  (try simp only [glA, glB, glC, Act.put, glD, glE, glF])
  refine wpAnyJ_one 6 rfl (by kernel_rfl) (fun K hK => ?_)
  simp only [glA, glB, glC]
  go_simp
  refine ⟨trivial, rfl, ?_⟩
  refine (callsIn_wide.2 (HS.out wd (HB.out.ext Bd.out))).mono ?_
  rintro e w1 ⟨rfl, hb1⟩
  have B1 := hide (Bd.out.trans (hb1.mono Bd.out.size))
  dsimp only
  refine hK.out _ _ (fun _ => HC.out _ B1.out) ?_
  clear hK K
  (try simp only [glA, glB, glC, Act.put, glD, glE, glF])
  clear hb1
  refine wpAnyJ_take 7 (v := ?_) (by first | exact hF | exact wideFn) (HC.out _ B1.out) rfl (by kernel_rfl) (by kernel_rfl) (by kernel_rfl) (by kernel_rfl) rfl ?_ (by first | exact fun _ _ _ h => h | exact fun _ _ _ h => hQ2 _ _ _ _ _ h) ?_
  rotate_left
  · intro W hSW
    simp only [glA, glB, glC]
    (try dsimp only at hSW)
    go_simp
    with_reducible rfl
  (try simp only [glA, glB, glC, Act.put, glD, glE, glF])
  refine wpAnyJ_take 8 (v := ?_) (by first | exact hF | exact wideFn) (HC.out _ B1.out) rfl (by kernel_rfl) (by kernel_rfl) (by kernel_rfl) (by kernel_rfl) rfl ?_ (by first | exact fun _ _ _ h => h | exact fun _ _ _ h => hQ2 _ _ _ _ _ h) ?_
  rotate_left
  · intro W hSW
    simp only [glA, glB, glC]
    (try dsimp only at hSW)
    go_simp
    with_reducible rfl
  (try simp only [glA, glB, glC, Act.put, glD, glE, glF])
  refine wpAnyJ_take 9 (v := ?_) (by first | exact hF | exact wideFn) (HC.out _ B1.out) rfl (by kernel_rfl) (by kernel_rfl) (by kernel_rfl) (by kernel_rfl) rfl ?_ (by first | exact fun _ _ _ h => h | exact fun _ _ _ h => hQ2 _ _ _ _ _ h) ?_
  rotate_left
  · intro W hSW
    simp only [glA, glB, glC]
    (try dsimp only at hSW)
    go_simp
    with_reducible rfl
  (try simp only [glA, glB, glC, Act.put, glD, glE, glF])
  refine wpAnyJ_done (by kernel_rfl) ?_
  rw [HE.out]
  go_wp2_with fail
  go_ret
  exact ⟨rfl, B1.out⟩
end Go.Proofs.YtcgdalabenflmaaDoor
/- Rite: moments: on, with. -/
namespace Go.Proofs.YtcgdalabenflmaaDoor
open List renaming getElem_toArray → glA, getElem_cons_zero → glB, getElem_cons_succ → glC, setIfInBounds_toArray → glD, set_cons_zero → glE, set_cons_succ → glF
open Go Go.RowKit Go.Shelf
set_option maxHeartbeats 8000000
set_option maxRecDepth 100000
def momV (m : Mom) : Value := .agg #[.int .u16 (m.d : Nat), .int .i64 m.day, .int .i64 m.de]
theorem on_any (m : Mom) (day2 : Int) (w : World) :
    Calls Tryd.prog 42 #[momV m, .int .i64 day2] w fun e w' => e = .returned (momV (m.on day2)) ∧ Below w.heap.size w w' := by
  obtain ⟨D, day, de⟩ := m
  unfold momV Mom.on
  dsimp only
  have hb : Below w.heap.size w ((w.alloc (.cells #[.int .u16 (D : Nat), .int .i64 day, .int .i64 de] 77)).alloc (.cells #[.int .u16 0, .int .i64 0, .int .i64 0] 77)) := ((Below.refl _ _).alloc (Nat.le_refl _) _).alloc (by simp) _
  have q0 : Blk ((w.alloc (.cells #[.int .u16 (D : Nat), .int .i64 day, .int .i64 de] 77)).alloc (.cells #[.int .u16 0, .int .i64 0, .int .i64 0] 77)) w.heap.size 77 #[.int .u16 (D : Nat), .int .i64 day, .int .i64 de] := (Blk.new w _ _).alloc _
  have q1 : Blk ((w.alloc (.cells #[.int .u16 (D : Nat), .int .i64 day, .int .i64 de] 77)).alloc (.cells #[.int .u16 0, .int .i64 0, .int .i64 0] 77)) (w.heap.size + 1) 77 #[.int .u16 0, .int .i64 0, .int .i64 0] := by simpa using Blk.new (w.alloc (.cells #[.int .u16 (D : Nat), .int .i64 day, .int .i64 de] 77)) 77 #[.int .u16 0, .int .i64 0, .int .i64 0]
  have HB := hide hb
  have Q0 := hide q0
  have Q1 := hide q1
  clear hb q0 q1
  by_cases h : day2 = day
  · have h' := h.symm
    subst h'
    rw [if_pos rfl]
    go_enter Tryd.func42, Tryd.ntmps42
    go_upto_region 1 with fail
    generalize ((w.alloc (.cells #[.int .u16 (D : Nat), .int .i64 day, .int .i64 de] 77)).alloc (.cells #[.int .u16 0, .int .i64 0, .int .i64 0] 77)) = w1 at HB Q0 Q1 ⊢
    obtain ⟨a9, a0, a1, a2, a3, a4, a5⟩ := blk3 Q0.out
    obtain ⟨b9, b0, b1, b2, b3, b4, b5⟩ := blk3 Q1.out
    have hne : (day != day) = false := by simp
    go_wp2_with fail
    refine bodyPost_ret (v := .agg #[.int .u16 (D : Nat), .int .i64 day, .int .i64 de]) (by
      have h3 := Q1.out.set3 (.int .u16 (D : Nat)) (.int .i64 day) (.int .i64 de)
      obtain ⟨-, z0, z1, z2, -⟩ := blk3 h3
      simp [results, Tryd.results42, go_sem, z0, z1, z2]) rfl ⟨rfl, set3B HB.out (Nat.le_succ _) _ _ _⟩
  · rw [if_neg h]
    go_enter Tryd.func42, Tryd.ntmps42
    go_upto_region 1 with fail
    generalize ((w.alloc (.cells #[.int .u16 (D : Nat), .int .i64 day, .int .i64 de] 77)).alloc (.cells #[.int .u16 0, .int .i64 0, .int .i64 0] 77)) = w1 at HB Q0 Q1 ⊢
    obtain ⟨a9, a0, a1, a2, a3, a4, a5⟩ := blk3 Q0.out
    have hne : (day2 != day) = true := by simp [h]
    go_upto_region 3 with fail
    clear a9 a0 a1 a2 a3 a4 a5
    have Q2 := hide ((Q0.out.set_ 1 (.int .i64 day2)).set_ 2 (.int .i64 0))
    have HB2 := hide ((HB.out.setCell (p := ⟨w.heap.size, 1, none⟩) (Nat.le_refl _) (.int .i64 day2)).setCell (p := ⟨w.heap.size, 2, none⟩) (Nat.le_refl _) (.int .i64 0))
    have Q3 := hide ((Q1.out.far (p := ⟨w.heap.size, 1, none⟩) (show w.heap.size + 1 ≠ w.heap.size by omega) (.int .i64 day2)).far (p := ⟨w.heap.size, 2, none⟩) (show w.heap.size + 1 ≠ w.heap.size by omega) (.int .i64 0))
    simp only [glD, glE, glF] at Q2
    generalize (w1.setCell ⟨w.heap.size, 1, none⟩ (.int .i64 day2)).setCell ⟨w.heap.size, 2, none⟩ (.int .i64 0) = w2 at HB2 Q2 Q3 ⊢
    obtain ⟨a9, a0, a1, a2, a3, a4, a5⟩ := blk3 Q2.out
    obtain ⟨b9, b0, b1, b2, b3, b4, b5⟩ := blk3 Q3.out
    go_wp2_with fail
    refine bodyPost_ret (v := .agg #[.int .u16 (D : Nat), .int .i64 day2, .int .i64 0]) (by
      have h3 := Q3.out.set3 (.int .u16 (D : Nat)) (.int .i64 day2) (.int .i64 0)
      obtain ⟨-, z0, z1, z2, -⟩ := blk3 h3
      simp [results, Tryd.results42, go_sem, z0, z1, z2]) rfl ⟨rfl, set3B HB2.out (Nat.le_succ _) _ _ _⟩
theorem with_any (m : Mom) (i : Nat) (w : World) (hd : m.d < 65536) (hi : i < 16) (h0 : 0 ≤ m.de) (h1 : m.de ≤ 1000000) :
    Calls Tryd.prog 65 #[momV m, .int .i64 i] w fun e w' => e = .returned (momV (m.wi i)) ∧ Below w.heap.size w w' := by
  obtain ⟨D, day, de⟩ := m
  unfold momV Mom.wi
  dsimp only at hd h0 h1 ⊢
  have hb : Below w.heap.size w ((w.alloc (.cells #[.int .u16 (D : Nat), .int .i64 day, .int .i64 de] 77)).alloc (.cells #[.int .u16 0, .int .i64 0, .int .i64 0] 77)) := ((Below.refl _ _).alloc (Nat.le_refl _) _).alloc (by simp) _
  have q0 : Blk ((w.alloc (.cells #[.int .u16 (D : Nat), .int .i64 day, .int .i64 de] 77)).alloc (.cells #[.int .u16 0, .int .i64 0, .int .i64 0] 77)) w.heap.size 77 #[.int .u16 (D : Nat), .int .i64 day, .int .i64 de] := (Blk.new w _ _).alloc _
  have q1 : Blk ((w.alloc (.cells #[.int .u16 (D : Nat), .int .i64 day, .int .i64 de] 77)).alloc (.cells #[.int .u16 0, .int .i64 0, .int .i64 0] 77)) (w.heap.size + 1) 77 #[.int .u16 0, .int .i64 0, .int .i64 0] := by simpa using Blk.new (w.alloc (.cells #[.int .u16 (D : Nat), .int .i64 day, .int .i64 de] 77)) 77 #[.int .u16 0, .int .i64 0, .int .i64 0]
  have HB := hide hb
  have Q0 := hide q0
  have Q1 := hide q1
  clear hb q0 q1
  have HOF := hide (fun W => of1_any i W hi)
  have a1 := or16 hd (p2_lt hi)
  obtain ⟨P, hP⟩ : ∃ P : Nat, 2 ^ i = P := ⟨_, rfl⟩
  rw [hP] at HOF a1 ⊢
  obtain ⟨Z, hZ⟩ : ∃ Z : Nat, D ||| P = Z := ⟨_, rfl⟩
  rw [hZ] at a1 ⊢
  have a2 : IntKind.i64.wrap (de + 1) = de + 1 := IntWalk.i64_in _ (by omega)
  clear hP hZ
  go_enter Tryd.func65, Tryd.ntmps65
  go_upto_region 1 with fail
  generalize ((w.alloc (.cells #[.int .u16 (D : Nat), .int .i64 day, .int .i64 de] 77)).alloc (.cells #[.int .u16 0, .int .i64 0, .int .i64 0] 77)) = w1 at HB Q0 Q1 ⊢
  obtain ⟨G, hG⟩ : ∃ x, w.heap.size = x := ⟨_, rfl⟩
  have HGG := hide hG
  rw [hG] at Q0 Q1 ⊢
  clear hG
  have HC : Hid (∀ W, Below w1.heap.size w1 W → W.cell? ⟨G, 0, none⟩ = some (.int .u16 (D : Nat))) := hide fun W h => (blk3 (Q0.out.ext h)).2.1
  have Bd := hide (Below.refl w1.heap.size w1).drew
  refine wp_region_J (fun W : World => W.cell? ⟨G, 0, none⟩ = some (.int .u16 (D : Nat))) (by kernel_rfl) ?_
  generalize w1.drew = wd at Bd ⊢
  refine wpAnyJ_take 0 (v := ?_) (by first | exact hF | exact wideFn) (HC.out _ Bd.out) rfl (by kernel_rfl) (by kernel_rfl) (by kernel_rfl) (by kernel_rfl) rfl ?_ (by first | exact fun _ _ _ h => h | exact fun _ _ _ h => hQ2 _ _ _ _ _ h) ?_
  rotate_left
  · intro W hSW
    simp only [glA, glB, glC]
    (try dsimp only at hSW)
    go_simp
    with_reducible rfl
  (try simp only [glA, glB, glC, Act.put, glD, glE, glF])
  refine wpAnyJ_take 1 (v := ?_) (by first | exact hF | exact wideFn) (HC.out _ Bd.out) rfl (by kernel_rfl) (by kernel_rfl) (by kernel_rfl) (by kernel_rfl) rfl ?_ (by first | exact fun _ _ _ h => h | exact fun _ _ _ h => hQ2 _ _ _ _ _ h) ?_
  rotate_left
  · intro W hSW
    simp only [glA, glB, glC]
    (try dsimp only at hSW)
    go_simp
    with_reducible rfl
  (try simp only [glA, glB, glC, Act.put, glD, glE, glF])
  refine wpAnyJ_take 2 (v := ?_) (by first | exact hF | exact wideFn) (HC.out _ Bd.out) rfl (by kernel_rfl) (by kernel_rfl) (by kernel_rfl) (by kernel_rfl) rfl ?_ (by first | exact fun _ _ _ h => h | exact fun _ _ _ h => hQ2 _ _ _ _ _ h) ?_
  rotate_left
  · intro W hSW
    simp only [glA, glB, glC]
    (try dsimp only at hSW)
    go_simp
    with_reducible rfl
  (try simp only [glA, glB, glC, Act.put, glD, glE, glF])
  refine wpAnyJ_one 3 rfl (by kernel_rfl) (fun K hK => ?_)
  simp only [glA, glB, glC]
  go_simp
  refine hK.out _ _ (fun _ => HC.out _ (Bd.out.alloc Bd.out.size _)) ?_
  clear hK K
  (try simp only [glA, glB, glC, Act.put, glD, glE, glF])
  refine wpAnyJ_one 4 rfl (by kernel_rfl) (fun K hK => ?_)
  simp only [glA, glB, glC]
  go_simp
  refine ⟨trivial, rfl, ?_⟩
  refine (callsIn_wide.2 (HOF.out wd)).mono ?_
  rintro e w2 ⟨rfl, hb2⟩
  have B2 := hide (Bd.out.trans (hb2.mono Bd.out.size))
  dsimp only
  refine hK.out _ _ (fun _ => HC.out _ B2.out) ?_
  clear hK K
  (try simp only [glA, glB, glC, Act.put, glD, glE, glF])
  clear hb2
  replace Q0 := hide (Q0.out.ext B2.out)
  replace Q1 := hide (Q1.out.ext B2.out)
  replace HB := hide (HB.out.trans (B2.out.mono HB.out.size))
  refine wpAnyJ_take 5 (v := ?_) (by first | exact hF | exact wideFn) (HC.out _ B2.out) rfl (by kernel_rfl) (by kernel_rfl) (by kernel_rfl) (by kernel_rfl) rfl ?_ (by first | exact fun _ _ _ h => h | exact fun _ _ _ h => hQ2 _ _ _ _ _ h) ?_
  rotate_left
  · intro W hSW
    simp only [glA, glB, glC]
    (try dsimp only at hSW)
    go_simp
    with_reducible rfl
  (try simp only [glA, glB, glC, Act.put, glD, glE, glF])
  refine wpAnyJ_take 6 (v := ?_) (by first | exact hF | exact wideFn) (HC.out _ B2.out) rfl (by kernel_rfl) (by kernel_rfl) (by kernel_rfl) (by kernel_rfl) rfl ?_ (by first | exact fun _ _ _ h => h | exact fun _ _ _ h => hQ2 _ _ _ _ _ h) ?_
  rotate_left
  · intro W hSW
    simp only [glA, glB, glC]
    (try dsimp only at hSW)
    go_simp
    with_reducible rfl
  (try simp only [glA, glB, glC, Act.put, glD, glE, glF])
  obtain ⟨a9, b0, b1, b2, b3, b4, b5⟩ := blk3 Q0.out
  refine wpAnyJ_one 7 rfl (by kernel_rfl) (fun K hK => ?_)
  simp only [glA, glB, glC]
  go_simp
  refine hK.out _ _ (fun h => absurd h (by rw [show lastOp _ _ _ = true from by kernel_rfl]; simp)) ?_
  clear hK K
  (try simp only [glA, glB, glC, Act.put, glD, glE, glF])
  refine wpAnyJ_done (by kernel_rfl) ?_
  clear a9 b0 b1 b2 b3 b4 b5 B2 Bd HC
  replace HB := hide (HB.out.setCell (p := ⟨G, 0, none⟩) (by show w.heap.size ≤ G; rw [HGG.out]; exact Nat.le_refl _) (.int .u16 (Z : Nat)))
  replace Q1 := hide (Q1.out.far (p := ⟨G, 0, none⟩) (show G + 1 ≠ G by omega) (.int .u16 (Z : Nat)))
  replace Q0 := hide (Q0.out.set_ 0 (.int .u16 (Z : Nat)))
  simp only [glD, glE, glF] at Q0
  generalize w2.setCell ⟨G, 0, none⟩ (.int .u16 (Z : Nat)) = w3 at HB Q0 Q1 ⊢
  obtain ⟨a9, b0, b1, b2, b3, b4, b5⟩ := blk3 Q0.out
  go_upto_region 3 with fail
  clear a9 b0 b1 b2 b3 b4 b5
  replace HB := hide (HB.out.setCell (p := ⟨G, 2, none⟩) (by show w.heap.size ≤ G; rw [HGG.out]; exact Nat.le_refl _) (.int .i64 (de + 1)))
  replace Q1 := hide (Q1.out.far (p := ⟨G, 2, none⟩) (show G + 1 ≠ G by omega) (.int .i64 (de + 1)))
  replace Q0 := hide (Q0.out.set_ 2 (.int .i64 (de + 1)))
  simp only [glD, glE, glF] at Q0
  generalize w3.setCell ⟨G, 2, none⟩ (.int .i64 (de + 1)) = w4 at HB Q0 Q1 ⊢
  obtain ⟨a9, a0, a3, a4, -⟩ := blk3 Q0.out
  obtain ⟨b9, b0, b1, b2, b3, b4, b5⟩ := blk3 Q1.out
  go_wp2_with fail
  refine bodyPost_ret (v := .agg #[.int .u16 (Z : Nat), .int .i64 day, .int .i64 (de + 1)]) (by
    have h3 := Q1.out.set3 (.int .u16 (Z : Nat)) (.int .i64 day) (.int .i64 (de + 1))
    obtain ⟨-, z0, z1, z2, -⟩ := blk3 h3
    simp [results, Tryd.results65, go_sem, z0, z1, z2]) rfl ⟨rfl, set3B HB.out (by rw [HGG.out]; exact Nat.le_succ _) _ _ _⟩
end Go.Proofs.YtcgdalabenflmaaDoor
/- Words that hang on no chapter: a struct stored into a block of its own, whole. -/
namespace Go.Proofs.YtcgdalabenflmaaDoor
open Go Go.RowKit
set_option maxRecDepth 100000
def setsA : Array Value → Nat → List Value → Array Value
  | cs, _, [] => cs
  | cs, o, v :: r => setsA (cs.setIfInBounds o v) (o + 1) r
theorem setsA_get : ∀ (vs : List Value) (cs : Array Value) (o j : Nat), o + vs.length ≤ cs.size → (setsA cs o vs)[j]? = if o ≤ j ∧ j < o + vs.length then vs[j - o]? else cs[j]?
  | [], cs, o, j, _ => by
    rw [if_neg (by simp)]; rfl
  | v :: r, cs, o, j, h => by
    have hl : (v :: r).length = r.length + 1 := rfl
    rw [hl] at h
    show (setsA (cs.setIfInBounds o v) (o + 1) r)[j]? = _
    rw [setsA_get r _ (o + 1) j (by simp; omega), hl]
    by_cases h1 : o + 1 ≤ j ∧ j < o + 1 + r.length
    · rw [if_pos h1, if_pos (by omega), show j - o = (j - (o + 1)) + 1 by omega, List.getElem?_cons_succ]
    · rw [if_neg h1]
      by_cases h2 : j = o
      · subst h2
        rw [if_pos (by omega), Nat.sub_self]
        simp [show j < cs.size by omega]
      · rw [if_neg (by omega)]
        rw [Array.getElem?_setIfInBounds_ne (fun e => h2 e.symm)]
theorem blk_sets {w : World} {g : Nat} {t : TypeId} : ∀ (vs : List Value) (o : Nat) (w : World) (cs : Array Value), Blk w g t cs → Blk (w.setCells g o vs) g t (setsA cs o vs)
  | [], _, _, _, h => h
  | v :: r, o, w, cs, h => blk_sets (w := w) r (o + 1) _ _ (h.set_ o v)
theorem sets_below {B g : Nat} (hg : B ≤ g) : ∀ (vs : List Value) (o : Nat) (w0 w : World), Below B w0 w → Below B w0 (w.setCells g o vs)
  | [], _, _, _, h => h
  | v :: r, o, w0, w, h => sets_below hg r (o + 1) w0 _ (h.setCell (p := ⟨g, o, none⟩) hg v)
theorem sets_size {g : Nat} : ∀ (vs : List Value) (o : Nat) (w : World), (w.setCells g o vs).heap.size = w.heap.size
  | [], _, _ => rfl
  | v :: r, o, w => (sets_size r (o + 1) _).trans (size_set _ _ _)
theorem sets_other {g k : Nat} (hk : k ≠ g) : ∀ (vs : List Value) (o : Nat) (w : World), (w.setCells g o vs).heap[k]? = w.heap[k]?
  | [], _, _ => rfl
  | v :: r, o, w => (sets_other hk r (o + 1) _).trans (Below.heap_setCell w ⟨g, o, none⟩ v k hk)
/-- a struct goes into a block of its own -/
theorem store_blk {P : Program} {w : World} {g : Nat} {t ty : TypeId} {cs cells : Array Value} (h : Blk w g t cs) (hsz : cs.size = cells.size) (hi : (P.info? ty).map (·.size) = some cells.size) (h1 : cells.all (·.oneCell') = true) :
    ∃ w', (Instr.storeAt ty (.pointer (some ⟨g, 0, none⟩)) (.agg cells)).run P w = .ok () w' ∧ Blk w' g t cells ∧ (∀ (B : Nat) (w0 : World), Below B w0 w → B ≤ g → Below B w0 w') ∧ w'.heap.size = w.heap.size ∧ ∀ k, k ≠ g → w'.heap[k]? = w.heap[k]? := by
  refine ⟨w.setCells g 0 cells.toList, run_storeAt_mid w g 0 ty cells (fun j hj => ⟨?_, h.frozen _⟩) hi h1, ?_, fun B w0 hb hg => sets_below hg _ _ _ _ hb, sets_size _ _ _, fun k hk => sets_other hk _ _ _⟩
  · rw [Nat.zero_add, h.cell, Array.getElem?_eq_getElem (by omega)]; rfl
  · have h2 := blk_sets (w := w) cells.toList 0 w cs h
    have e : setsA cs 0 cells.toList = cells := by
      apply Array.ext_getElem?
      intro j
      rw [setsA_get _ _ _ _ (by simp; omega)]
      by_cases hj : j < cells.size
      · rw [if_pos (by simp; omega)]; simp
      · rw [if_neg (by simp; omega), Array.getElem?_eq_none (by omega), Array.getElem?_eq_none (by omega)]
    rw [e] at h2
    exact h2
theorem wpIn_store_run {F : Fence} {n : Nat} {P : Program} {Q : Exit → Act → World → Prop} {o : Oper} {a : Act} {w w' : World} {K : Act → World → Prop} (ty : TypeId) (p x : Operand) {v u : Value} (hfn : ∀ f, F.fn f)
    (ho : o.op = .store ty p x) (hp : a.eval p = v) (hx : a.eval x = u) (hrun : (Instr.storeAt ty v u).run P w = .ok () w') (h : K (a.put o.dst undef) w') : o.wpIn F n P a w K Q := by
  refine ⟨fun f _ => hfn f, ?_⟩
  rw [Oper.semAt_eq _ _ _ (fun c => by rw [ho]; simp)]
  unfold execOp
  simp only [ho, hp, hx, hrun, Sem.run_bind, Sem.run_pure, Result.andThen_ok]
  exact h
/-- a struct built out of parts, in a region that draws its order -/
theorem exec_build {P : Program} {ev : Operand → Value} {o : Oper} {t : TypeId} {parts : Array (Nat × Operand)} {cells : Array Value} {w : World} (ho : o.op = .build t parts) (h : P.built t (parts.map fun x => (x.1, ev x.2)).toList = some cells) :
    (execOp ev o).run P w = .ok (.value (.agg cells)) w := by
  have h2 := run_build w t (parts.map fun x => (x.1, ev x.2)) cells h
  unfold execOp
  simp only [ho]
  simp only [Sem.run_bind, h2, Result.andThen_ok, Sem.run_pure]
end Go.Proofs.YtcgdalabenflmaaDoor
/- Rite: the rule that a deed breaks, walked. -/
namespace Go.Proofs.YtcgdalabenflmaaDoor
open List renaming getElem_toArray → glA, getElem_cons_zero → glB, getElem_cons_succ → glC, setIfInBounds_toArray → glD, set_cons_zero → glE, set_cons_succ → glF
open Go Go.RowKit Go.Shelf
set_option maxHeartbeats 8000000
set_option maxRecDepth 100000
/-- the cells of an act and the moment's set -/
theorem rule_any (b : Nat) (d : Rad) (q : Bad) (r : Rit) (m : Mom) (act : Int) (w : World) (hr : RiOk r) (hd : m.d < 65536) (hB : BkR w b d q r) :
    Calls Tryd.prog 67 #[.pointer (some ⟨b, 0, none⟩), momV m, .int .i64 act] w fun e w' => e = .returned (.int .i64 (brF r m.d m.day m.de act)) ∧ Below w.heap.size w w' := by
  obtain ⟨D, day, de⟩ := m
  unfold momV
  dsimp only at hd ⊢
  have h10 := hr.n10
  have HRO := hide hr
  have HB1 : Hid (Below w.heap.size w (w.alloc (.cells #[.int .u16 (D : Nat), .int .i64 day, .int .i64 de] 77))) := hide ((Below.refl _ _).alloc (Nat.le_refl _) _)
  have G1 := hide (Blk.new w 77 #[.int .u16 (D : Nat), .int .i64 day, .int .i64 de])
  have HBK := hide (hB.ext HB1.out)
  have HW := hide (fun (a x y : Int) W => rwithin_any a x y W)
  have HST := hide (fun W (h : BkR W b d q r) => settled_any b d q r D W hr hd h)
  have HFO := hide (fun W (h : BkR W b d q r) => forgotten_any b d q r D day W hr hd h)
  obtain ⟨n, hn⟩ : ∃ n, r.n = n := ⟨_, rfl⟩
  have HN := hide hn
  rw [hn] at h10
  clear hB hr hn
  obtain ⟨wA, hwA⟩ : ∃ x, w.alloc (.cells #[.int .u16 (D : Nat), .int .i64 day, .int .i64 de] 77) = x := ⟨_, rfl⟩
  rw [hwA] at HB1 G1 HBK
  obtain ⟨c9, c0, c1, c2, c3, c4, c5, c6, c7⟩ := bx8 HBK.out.blk
  rw [HN.out] at c0
  by_cases hact : act < 0 ∨ (n : Int) ≤ act
  · have hbr : brF r D day de act = 2 := by unfold brF; rw [HN.out, if_pos hact]
    rw [hbr]
    have hw : (decide (0 ≤ act) && decide (act ≤ (n : Int) - 1)) = false := by
      rcases hact with h | h
      · rw [decide_eq_false (show ¬ 0 ≤ act by omega)]; rfl
      · rw [decide_eq_false (show ¬ act ≤ (n : Int) - 1 by omega), Bool.and_false]
    have HW2 := hide (HW.out act 0 ((n : Int) - 1))
    rw [hw] at HW2
    have e1 : IntKind.i64.wrap ((n : Int) - 1) = (n : Int) - 1 := IntWalk.i64_in _ (by omega)
    clear hw hact hbr
    go_enter Tryd.func67, Tryd.ntmps67
    go_upto_region 1 with fail
    clear hwA
    go_wp2_with fail
    refine (HW2.out _).mono ?_
    rintro e w2 ⟨rfl, rfl⟩
    go_wp2_with fail
    go_ret
    exact ⟨rfl, HB1.out⟩
  obtain ⟨i, rfl⟩ : ∃ i : Nat, act = (i : Int) := ⟨act.toNat, by omega⟩
  have hi : i < n := by omega
  have hi' : i < r.n := by rw [HN.out]; exact hi
  have hbr : brF r D day de i = if D.testBit i || (!(r.ac i).ex && seB r D i) then 2 else if day < (r.ac i).fr ∨ (r.ac i).to_ < day then 3 else if !neB r D i then 4 else if (r.ac i).ex && !usB r D day i then 5 else if r.toil ≤ de then 6 else 0 := by
    unfold brF
    rw [HN.out, if_neg hact, Int.toNat_natCast]
  have HBR := hide hbr
  clear hbr
  have hw : (decide (0 ≤ (i : Int)) && decide ((i : Int) ≤ (n : Int) - 1)) = true := by
    rw [decide_eq_true (show 0 ≤ (i : Int) by omega), decide_eq_true (show (i : Int) ≤ (n : Int) - 1 by omega)]; rfl
  have HW2 := hide (HW.out i 0 ((n : Int) - 1))
  rw [hw] at HW2
  have e1 : IntKind.i64.wrap ((n : Int) - 1) = (n : Int) - 1 := IntWalk.i64_in _ (by omega)
  obtain ⟨a, ha⟩ : ∃ a, r.ac i = a := ⟨_, rfl⟩
  obtain ⟨nm, nd, ins, at_, fr, to_, ex⟩ := a
  have HSE : Hid ((seS r D).testBit i = seB r D i ∧ seS r D < 65536) := hide ⟨by rw [seS_bit, decide_eq_true hi', Bool.true_and], seS_lt HRO.out D⟩
  have HNE := hide (ne_iff HRO.out hi' D)
  have HUS := hide (us_iff HRO.out D day i)
  have HLT : Hid (reS r i < 65536 ∧ atS r i < 65536 ∧ foS r D day < 65536) := hide ⟨lt16 (show reS r i < 2 ^ r.n from mkS_lt _ _) (by rw [HN.out]; omega), lt16 (show atS r i < 2 ^ r.n from mkS_lt _ _) (by rw [HN.out]; omega), lt16 (show foS r D day < 2 ^ r.n from mkS_lt _ _) (by rw [HN.out]; omega)⟩
  have HA := hide ha
  rw [ha] at HBR HNE
  dsimp only at HBR HNE
  obtain ⟨pb, po, hA, hpl, x0, x1, x2, x3, x4, x5, x6⟩ := HBK.out.rt.at_ hi' ha
  dsimp only at x0 x1 x2 x3 x4 x5 x6
  rw [hA] at c0
  generalize d.na i = na at x1
  generalize d.nc i = nc at x1
  generalize d.ia i = ia at x2
  generalize d.ic i = ic at x2
  obtain ⟨ndl, hnd⟩ : ∃ x, nd.length = x := ⟨_, rfl⟩
  obtain ⟨insl, hins⟩ : ∃ x, ins.length = x := ⟨_, rfl⟩
  rw [hnd] at x1
  rw [hins] at x2
  obtain ⟨G, hG⟩ : ∃ x, w.heap.size = x := ⟨_, rfl⟩
  have HGG := hide hG
  rw [hG] at G1
  generalize d.c = dc at c0
  have HS3 : Hid (∀ W, Below wA.heap.size wA W → ((W.cell? ⟨pb, po + i * 7, none⟩ = some (.string nm) ∧ W.cell? ⟨pb, po + i * 7 + 1, none⟩ = some (.slice na ndl nc) ∧ W.cell? ⟨pb, po + i * 7 + 2, none⟩ = some (.slice ia insl ic) ∧ W.cell? ⟨pb, po + i * 7 + 3, none⟩ = some (.int .i64 at_) ∧ W.cell? ⟨pb, po + i * 7 + 4, none⟩ = some (.int .i64 fr) ∧ W.cell? ⟨pb, po + i * 7 + 5, none⟩ = some (.int .i64 to_) ∧ W.cell? ⟨pb, po + i * 7 + 6, none⟩ = some (.bool ex)) ∧ W.cell? ⟨G, 0, none⟩ = some (.int .u16 (D : Nat)) ∧ W.cell? ⟨b, 0, none⟩ = some (.slice (some ⟨pb, po, none⟩) n dc))) := hide fun W h => ⟨⟨(h.cell (p := ⟨pb, po + i * 7, none⟩) hpl).trans x0, (h.cell (p := ⟨pb, po + i * 7 + 1, none⟩) hpl).trans x1, (h.cell (p := ⟨pb, po + i * 7 + 2, none⟩) hpl).trans x2, (h.cell (p := ⟨pb, po + i * 7 + 3, none⟩) hpl).trans x3, (h.cell (p := ⟨pb, po + i * 7 + 4, none⟩) hpl).trans x4, (h.cell (p := ⟨pb, po + i * 7 + 5, none⟩) hpl).trans x5, (h.cell (p := ⟨pb, po + i * 7 + 6, none⟩) hpl).trans x6⟩, (blk3 (G1.out.ext h)).2.1, (h.cell (p := ⟨b, 0, none⟩) c9).trans c0⟩
  have i0 : (0 : Int) ≤ (i : Int) := by omega
  have i1 : (i : Int) < (n : Int) := by omega
  clear hw hact ha hnd hins x0 x1 x2 x3 x4 x5 x6 hA c1 c2 c3 c4 c5 c6 c7
  go_enter Tryd.func67, Tryd.ntmps67
  go_upto_region 1 with fail
  clear hwA hG
  go_wp2_with fail
  refine (HW2.out _).mono ?_
  rintro e w2 ⟨rfl, rfl⟩
  clear HW2
  go_upto_region 3 with fail
  go_cut [7, 8] (fun p7 p8 w' => ∃ g, p7 = .pointer (some ⟨g, 0, none⟩) ∧ p8 = .int .u16 (seS r D : Nat) ∧ Hid (Blk w' g 58 #[.string nm, .slice na ndl nc, .slice ia insl ic, .int .i64 at_, .int .i64 fr, .int .i64 to_, .bool ex]) ∧ Hid (Below wA.heap.size wA w'))
  case first =>
   as_aux_lemma =>
    have Bd := hide (Below.refl wA.heap.size wA).drew
    have HM := hide (Below.refl wA.heap.size wA)
    obtain ⟨lo, HLO⟩ : ∃ lo, Hid (lo = wA.heap.size) := ⟨_, hide rfl⟩
    refine wp_region_J (fun W : World => ((W.cell? ⟨pb, po + i * 7, none⟩ = some (.string nm) ∧ W.cell? ⟨pb, po + i * 7 + 1, none⟩ = some (.slice na ndl nc) ∧ W.cell? ⟨pb, po + i * 7 + 2, none⟩ = some (.slice ia insl ic) ∧ W.cell? ⟨pb, po + i * 7 + 3, none⟩ = some (.int .i64 at_) ∧ W.cell? ⟨pb, po + i * 7 + 4, none⟩ = some (.int .i64 fr) ∧ W.cell? ⟨pb, po + i * 7 + 5, none⟩ = some (.int .i64 to_) ∧ W.cell? ⟨pb, po + i * 7 + 6, none⟩ = some (.bool ex)) ∧ W.cell? ⟨G, 0, none⟩ = some (.int .u16 (D : Nat)) ∧ W.cell? ⟨b, 0, none⟩ = some (.slice (some ⟨pb, po, none⟩) n dc))) (by kernel_rfl) ?_
    generalize wA.drew = wd at Bd ⊢
    refine wpAnyJ_take 0 (v := ?_) (by first | exact hF | exact wideFn) (HS3.out _ Bd.out) rfl (by kernel_rfl) (by kernel_rfl) (by kernel_rfl) (by kernel_rfl) rfl ?_ (by first | exact fun _ _ _ h => h | exact fun _ _ _ h => hQ2 _ _ _ _ _ h) ?_
    rotate_left
    · intro W hSW
      simp only [glA, glB, glC]
      (try dsimp only at hSW)
      go_simp
      with_reducible rfl
    (try simp only [glA, glB, glC, Act.put, glD, glE, glF])
    refine wpAnyJ_take 1 (v := ?_) (by first | exact hF | exact wideFn) (HS3.out _ Bd.out) rfl (by kernel_rfl) (by kernel_rfl) (by kernel_rfl) (by kernel_rfl) rfl ?_ (by first | exact fun _ _ _ h => h | exact fun _ _ _ h => hQ2 _ _ _ _ _ h) ?_
    rotate_left
    · intro W hSW
      simp only [glA, glB, glC]
      (try dsimp only at hSW)
      go_simp
      with_reducible rfl
    (try simp only [glA, glB, glC, Act.put, glD, glE, glF])
    refine wpAnyJ_take 2 (v := ?_) (by first | exact hF | exact wideFn) (HS3.out _ Bd.out) rfl (by kernel_rfl) (by kernel_rfl) (by kernel_rfl) (by kernel_rfl) rfl ?_ (by first | exact fun _ _ _ h => h | exact fun _ _ _ h => hQ2 _ _ _ _ _ h) ?_
    rotate_left
    · intro W hSW
      simp only [glA, glB, glC]
      (try dsimp only at hSW)
      go_simp
      with_reducible rfl
    (try simp only [glA, glB, glC, Act.put, glD, glE, glF])
    refine wpAnyJ_take 3 (v := ?_) (by first | exact hF | exact wideFn) (HS3.out _ Bd.out) rfl (by kernel_rfl) (by kernel_rfl) (by kernel_rfl) (by kernel_rfl) rfl ?_ (by first | exact fun _ _ _ h => h | exact fun _ _ _ h => hQ2 _ _ _ _ _ h) ?_
    rotate_left
    · intro W hSW
      simp only [glA, glB, glC]
      (try dsimp only at hSW)
      go_simp
      with_reducible rfl
    (try simp only [glA, glB, glC, Act.put, glD, glE, glF])
    refine wpAnyJ_take 4 (v := ?_) (by first | exact hF | exact wideFn) (HS3.out _ Bd.out) rfl (by kernel_rfl) (by kernel_rfl) (by kernel_rfl) (by kernel_rfl) rfl ?_ (by first | exact fun _ _ _ h => h | exact fun _ _ _ h => hQ2 _ _ _ _ _ h) ?_
    rotate_left
    · intro W hSW
      simp only [glA, glB, glC]
      (try dsimp only at hSW)
      go_simp
      with_reducible rfl
    (try simp only [glA, glB, glC, Act.put, glD, glE, glF])
    refine wpAnyJ_take 5 (v := ?_) (by first | exact hF | exact wideFn) (HS3.out _ Bd.out) rfl (by kernel_rfl) (by kernel_rfl) (by kernel_rfl) (by kernel_rfl) rfl ?_ (by first | exact fun _ _ _ h => h | exact fun _ _ _ h => hQ2 _ _ _ _ _ h) ?_
    rotate_left
    · intro W hSW
      simp only [glA, glB, glC]
      (try dsimp only at hSW)
      go_simp
      with_reducible rfl
    (try simp only [glA, glB, glC, Act.put, glD, glE, glF])
    refine wpAnyJ_take 6 (v := ?_) (by first | exact hF | exact wideFn) (HS3.out _ Bd.out) rfl (by kernel_rfl) (by kernel_rfl) (by kernel_rfl) (by kernel_rfl) rfl ?_ (by first | exact fun _ _ _ h => h | exact fun _ _ _ h => hQ2 _ _ _ _ _ h) ?_
    rotate_left
    · intro W hSW
      simp only [glA, glB, glC]
      (try dsimp only at hSW)
      go_simp
      with_reducible rfl
    (try simp only [glA, glB, glC, Act.put, glD, glE, glF])
    refine wpAnyJ_take 7 (v := ?_) (by first | exact hF | exact wideFn) (HS3.out _ Bd.out) rfl (by kernel_rfl) (by kernel_rfl) (by kernel_rfl) (by kernel_rfl) rfl ?_ (by first | exact fun _ _ _ h => h | exact fun _ _ _ h => hQ2 _ _ _ _ _ h) ?_
    rotate_left
    · intro W hSW
      simp only [glA, glB, glC]
      (try dsimp only at hSW)
      go_simp
      with_reducible rfl
    (try simp only [glA, glB, glC, Act.put, glD, glE, glF])
    refine wpAnyJ_take 8 (v := ?_) (by first | exact hF | exact wideFn) (HS3.out _ Bd.out) rfl (by kernel_rfl) (by kernel_rfl) (by kernel_rfl) (by kernel_rfl) rfl ?_ (by first | exact fun _ _ _ h => h | exact fun _ _ _ h => hQ2 _ _ _ _ _ h) ?_
    rotate_left
    · intro W hSW
      simp only [glA, glB, glC]
      (try dsimp only at hSW)
      go_simp
      with_reducible rfl
    (try simp only [glA, glB, glC, Act.put, glD, glE, glF])
    refine wpAnyJ_take 9 (v := ?_) (by first | exact hF | exact wideFn) (HS3.out _ Bd.out) rfl (by kernel_rfl) (by kernel_rfl) (by kernel_rfl) (by kernel_rfl) rfl ?_ (by first | exact fun _ _ _ h => h | exact fun _ _ _ h => hQ2 _ _ _ _ _ h) ?_
    rotate_left
    · intro W hSW
      simp only [glA, glB, glC]
      (try dsimp only at hSW)
      go_simp
      with_reducible rfl
    (try simp only [glA, glB, glC, Act.put, glD, glE, glF])
    refine wpAnyJ_take 10 (v := ?_) (by first | exact hF | exact wideFn) (HS3.out _ Bd.out) rfl (by kernel_rfl) (by kernel_rfl) (by kernel_rfl) (by kernel_rfl) rfl ?_ (by first | exact fun _ _ _ h => h | exact fun _ _ _ h => hQ2 _ _ _ _ _ h) ?_
    rotate_left
    · intro W hSW
      simp only [glA, glB, glC]
      (try dsimp only at hSW)
      go_simp
      with_reducible rfl
    (try simp only [glA, glB, glC, Act.put, glD, glE, glF])
    refine wpAnyJ_two 11 12 rfl rfl (by kernel_rfl) (fun K hK => ?_) (fun K hK => ?_)
    · simp only [glA, glB, glC]
      go_simp
      refine ⟨trivial, rfl, ?_⟩
      refine (callsIn_wide.2 (HST.out wd (HBK.out.ext Bd.out))).mono ?_
      rintro e w3 ⟨rfl, hb3⟩
      have B3 := hide (Bd.out.trans (hb3.mono Bd.out.size))
      dsimp only
      refine hK.out _ _ (fun _ => HS3.out _ B3.out) ?_
      clear hK K
      (try simp only [glA, glB, glC, Act.put, glD, glE, glF])
      clear hb3
      have B4 := hide (B3.out.alloc B3.out.size (.cells #[.string ⟨#[]⟩, .slice none 0 0, .slice none 0 0, .int .i64 0, .int .i64 0, .int .i64 0, .bool false] 58))
      have K7 := hide (Blk.new w3 58 #[.string ⟨#[]⟩, .slice none 0 0, .slice none 0 0, .int .i64 0, .int .i64 0, .int .i64 0, .bool false])
      have HL := hide B3.out.size
      refine wpAnyJ_one 12 rfl (by kernel_rfl) (fun K hK => ?_)
      simp only [glA, glB, glC]
      go_simp
      refine hK.out _ _ (fun _ => HS3.out _ B4.out) ?_
      clear hK K
      (try simp only [glA, glB, glC, Act.put, glD, glE, glF])
      obtain ⟨g, hg⟩ : ∃ x, w3.heap.size = x := ⟨_, rfl⟩
      rw [hg] at K7 HL ⊢
      clear hg
      generalize w3.alloc (.cells #[.string ⟨#[]⟩, .slice none 0 0, .slice none 0 0, .int .i64 0, .int .i64 0, .int .i64 0, .bool false] 58) = w4 at B4 K7 ⊢
      obtain ⟨wS, hrun, hKS, hBS, -⟩ := store_blk (P := Tryd.prog) (ty := 58) (cells := #[.string nm, .slice na ndl nc, .slice ia insl ic, .int .i64 at_, .int .i64 fr, .int .i64 to_, .bool ex]) K7.out rfl (by kernel_rfl) (by simp [Value.oneCell'])
      have BS := hide (hBS _ _ B4.out HL.out)
      have KS := hide hKS
      refine wpAnyJ_one 13 rfl (by kernel_rfl) (fun K hK => ?_)
      rw [if_pos (by rfl)]
      refine wpIn_store_run 58 (.tmp 7) (.tmp 26) wideFn rfl rfl rfl hrun ?_
      refine hK.out _ _ (fun _ => HS3.out _ BS.out) ?_
      clear hK K hrun hKS hBS K7
      (try simp only [glA, glB, glC, Act.put, glD, glE, glF])
      refine wpAnyJ_take 14 (v := ?_) (by first | exact hF | exact wideFn) (HS3.out _ BS.out) rfl (by kernel_rfl) (by kernel_rfl) (by kernel_rfl) (by kernel_rfl) rfl ?_ (by first | exact fun _ _ _ h => h | exact fun _ _ _ h => hQ2 _ _ _ _ _ h) ?_
      rotate_left
      · intro W hSW
        simp only [glA, glB, glC]
        (try dsimp only at hSW)
        go_simp
        with_reducible rfl
      (try simp only [glA, glB, glC, Act.put, glD, glE, glF])
      refine wpAnyJ_done (by kernel_rfl) ?_
      go_wp2_with fail
      go_meet
      exact ⟨g, rfl, rfl, KS, hide (HM.out.trans (BS.out.mono HM.out.size))⟩
    · have B3 := hide (Bd.out.alloc Bd.out.size (.cells #[.string ⟨#[]⟩, .slice none 0 0, .slice none 0 0, .int .i64 0, .int .i64 0, .int .i64 0, .bool false] 58))
      have K7 := hide (Blk.new wd 58 #[.string ⟨#[]⟩, .slice none 0 0, .slice none 0 0, .int .i64 0, .int .i64 0, .int .i64 0, .bool false])
      have HL : Hid (lo ≤ wd.heap.size) := hide (by rw [HLO.out]; exact Bd.out.size)
      simp only [glA, glB, glC]
      go_simp
      refine hK.out _ _ (fun _ => HS3.out _ B3.out) ?_
      clear hK K
      (try simp only [glA, glB, glC, Act.put, glD, glE, glF])
      obtain ⟨g, hg⟩ : ∃ x, wd.heap.size = x := ⟨_, rfl⟩
      rw [hg] at K7 HL ⊢
      clear hg
      generalize wd.alloc (.cells #[.string ⟨#[]⟩, .slice none 0 0, .slice none 0 0, .int .i64 0, .int .i64 0, .int .i64 0, .bool false] 58) = w3 at B3 K7 ⊢
      refine wpAnyJ_one 11 rfl (by kernel_rfl) (fun K hK => ?_)
      simp only [glA, glB, glC]
      go_simp
      refine ⟨trivial, rfl, ?_⟩
      refine (callsIn_wide.2 (HST.out w3 (HBK.out.ext B3.out))).mono ?_
      rintro e w4 ⟨rfl, hb3⟩
      have B4 := hide (B3.out.trans (hb3.mono B3.out.size))
      dsimp only
      refine hK.out _ _ (fun _ => HS3.out _ B4.out) ?_
      clear hK K
      (try simp only [glA, glB, glC, Act.put, glD, glE, glF])
      replace K7 := hide (K7.out.ext hb3)
      replace HL : Hid (wA.heap.size ≤ g) := hide (by rw [← HLO.out]; exact HL.out)
      clear hb3
      obtain ⟨wS, hrun, hKS, hBS, -⟩ := store_blk (P := Tryd.prog) (ty := 58) (cells := #[.string nm, .slice na ndl nc, .slice ia insl ic, .int .i64 at_, .int .i64 fr, .int .i64 to_, .bool ex]) K7.out rfl (by kernel_rfl) (by simp [Value.oneCell'])
      have BS := hide (hBS _ _ B4.out HL.out)
      have KS := hide hKS
      refine wpAnyJ_one 13 rfl (by kernel_rfl) (fun K hK => ?_)
      rw [if_pos (by rfl)]
      refine wpIn_store_run 58 (.tmp 7) (.tmp 26) wideFn rfl rfl rfl hrun ?_
      refine hK.out _ _ (fun _ => HS3.out _ BS.out) ?_
      clear hK K hrun hKS hBS K7
      (try simp only [glA, glB, glC, Act.put, glD, glE, glF])
      refine wpAnyJ_take 14 (v := ?_) (by first | exact hF | exact wideFn) (HS3.out _ BS.out) rfl (by kernel_rfl) (by kernel_rfl) (by kernel_rfl) (by kernel_rfl) rfl ?_ (by first | exact fun _ _ _ h => h | exact fun _ _ _ h => hQ2 _ _ _ _ _ h) ?_
      rotate_left
      · intro W hSW
        simp only [glA, glB, glC]
        (try dsimp only at hSW)
        go_simp
        with_reducible rfl
      (try simp only [glA, glB, glC, Act.put, glD, glE, glF])
      refine wpAnyJ_done (by kernel_rfl) ?_
      go_wp2_with fail
      go_meet
      exact ⟨g, rfl, rfl, KS, hide (HM.out.trans (BS.out.mono HM.out.size))⟩
  obtain ⟨g, rfl, rfl, HG7, HBG⟩ := hcut
  have HHA := hide (fun W => has_any D i W hd (by omega))
  have HHB := hide (fun W => has_any (seS r D) i W HSE.out.2 (by omega))
  rw [HSE.out.1] at HHB
  obtain ⟨x9, x0, x1, x2, x3, x4, x5, x6⟩ := bx7 HG7.out
  obtain ⟨y9, y0, y1, y2, -⟩ := blk3 (G1.out.ext HBG.out)
  have HBF := hide (HB1.out.trans (HBG.out.mono HB1.out.size))
  replace HBK := hide (HBK.out.ext HBG.out)
  replace G1 := hide (G1.out.ext HBG.out)
  clear HS3 x0 x1 x2 x3 HBG
  cases hda : D.testBit i with
  | true =>
    rw [hda] at HBR HHA
    rw [Bool.true_or, if_pos rfl] at HBR
    clear hda
    go_wp2_with fail
    refine (HHA.out _).mono ?_
    rintro e w4 ⟨rfl, rfl⟩
    go_wp2_with fail
    go_ret
    exact ⟨ret_int HBR.out.symm, HBF.out⟩
  | false =>
    rw [hda, Bool.false_or] at HBR
    rw [hda] at HHA
    clear hda
    cases ex with
    | false =>
      cases hsb : seB r D i with
      | true =>
        rw [hsb] at HBR HHB
        rw [Bool.not_false, Bool.true_and, if_pos rfl] at HBR
        clear hsb
        go_wp2_with fail
        refine (HHA.out _).mono ?_
        rintro e w4 ⟨rfl, rfl⟩
        go_wp2_with fail
        refine (HHB.out _).mono ?_
        rintro e w4 ⟨rfl, rfl⟩
        go_wp2_with fail
        go_ret
        exact ⟨ret_int HBR.out.symm, HBF.out⟩
      | false =>
        rw [hsb] at HBR HHB
        rw [Bool.not_false, Bool.true_and, if_neg (by decide)] at HBR
        rw [Bool.false_and] at HBR
        clear hsb
        go_wp2_with fail
        refine (HHA.out _).mono ?_
        rintro e w4 ⟨rfl, rfl⟩
        go_wp2_with fail
        refine (HHB.out _).mono ?_
        rintro e w4 ⟨rfl, rfl⟩
        go_upto_region 6 with fail
        by_cases h2 : day < fr ∨ to_ < day
        · rw [if_pos h2] at HBR
          have hw : (decide (fr ≤ day) && decide (day ≤ to_)) = false := by
            rcases h2 with h | h
            · rw [decide_eq_false (show ¬ fr ≤ day by omega)]; rfl
            · rw [decide_eq_false (show ¬ day ≤ to_ by omega), Bool.and_false]
          have HW3 := hide (HW.out day fr to_)
          rw [hw] at HW3
          clear hw h2
          go_wp2_with fail
          refine (HW3.out _).mono ?_
          rintro e w5 ⟨rfl, rfl⟩
          go_wp2_with fail
          go_ret
          exact ⟨ret_int HBR.out.symm, HBF.out⟩
        rw [if_neg h2] at HBR
        have hw : (decide (fr ≤ day) && decide (day ≤ to_)) = true := by
          rw [decide_eq_true (show fr ≤ day by omega), decide_eq_true (show day ≤ to_ by omega)]; rfl
        have HW3 := hide (HW.out day fr to_)
        rw [hw] at HW3
        clear hw h2
        go_wp2_with fail
        refine (HW3.out _).mono ?_
        rintro e w5 ⟨rfl, rfl⟩
        go_upto_region 8 with fail
        obtain ⟨nb, no, hpn, hnl, hnc⟩ := VR1.at_ HBK.out.sn hi'
        have c3 := (bx8 HBK.out.blk).2.2.2.2.1
        rw [HN.out, hpn] at c3
        rw [HA.out] at hnc
        dsimp only at hnc
        have a3 := not16 (seL_lt nd) HSE.out.2
        have HSN := hide (seL_lt nd)
        obtain ⟨z, hz⟩ : ∃ z, anN (seL nd) (seS r D) = z := ⟨_, rfl⟩
        rw [hz] at a3 HNE
        generalize seL nd = sn at a3 hnc HSN
        clear hz hpn
        cases hne : neB r D i with
        | false =>
          rw [hne] at HBR HNE
          rw [Bool.not_false, if_pos rfl] at HBR
          have hz1 : ((z : Int) == 0) = false := by
            rw [beq_eq_false_iff_ne]
            intro h
            have := HNE.out.1 (by omega)
            cases this
          have hz2 : ((z : Int) != 0) = true := by rw [bne, hz1]; rfl
          clear hne HNE
          go_wp2_with fail
          go_ret
          exact ⟨ret_int HBR.out.symm, HBF.out⟩
        | true =>
        rw [hne] at HBR HNE
        rw [Bool.not_true, if_neg (by decide)] at HBR
        obtain rfl := HNE.out.2 rfl
        clear hne HNE
        rw [if_neg (by decide)] at HBR
        go_upto_region 10 with fail
        obtain ⟨rb, ro, hpr, hrl, hrc⟩ := VR1.at_ HBK.out.sr hi'
        obtain ⟨ab, ao, hpa, hal, hac⟩ := VR1.at_ HBK.out.sa hi'
        obtain ⟨re, hre⟩ : ∃ x, reS r i = x := ⟨_, rfl⟩
        obtain ⟨at2, hat⟩ : ∃ x, atS r i = x := ⟨_, rfl⟩
        rw [hre] at hrc HLT HUS
        rw [hat] at hac HLT HUS
        have HS10 : Hid (∀ W, Below wc.heap.size wc W → ((W.cell? ⟨g, 6, none⟩ = some (.bool false) ∧ W.cell? ⟨b, 5, none⟩ = some (.slice (some ⟨rb, ro, none⟩) n n) ∧ W.cell? ⟨b, 6, none⟩ = some (.slice (some ⟨ab, ao, none⟩) n n)) ∧ (W.cell? ⟨rb, ro + i, none⟩ = some (.int .u16 (re : Nat)) ∧ W.cell? ⟨ab, ao + i, none⟩ = some (.int .u16 (at2 : Nat))) ∧ W.cell? ⟨G, 0, none⟩ = some (.int .u16 (D : Nat)) ∧ W.cell? ⟨G, 1, none⟩ = some (.int .i64 day))) := hide fun W h => ⟨⟨(bx7 (HG7.out.ext h)).2.2.2.2.2.2.2, by
          have := (bx8 (HBK.out.blk.ext h)).2.2.2.2.2.2.1
          rw [HN.out, hpr] at this
          exact this, by
          have := (bx8 (HBK.out.blk.ext h)).2.2.2.2.2.2.2.1
          rw [HN.out, hpa] at this
          exact this⟩, ⟨(h.cell (p := ⟨rb, ro + i, none⟩) hrl).trans hrc, (h.cell (p := ⟨ab, ao + i, none⟩) hal).trans hac⟩, (blk3 (G1.out.ext h)).2.1, (blk3 (G1.out.ext h)).2.2.1⟩
        have Bd := hide ((Below.refl wc.heap.size wc).drew)
        have Be := hide (HBF.out.trans ((Below.refl wc.heap.size wc).drew.mono HBF.out.size))
        clear hpr hrl hrc hpa hal hac hre hat x4 x5 x6 x9 y0 y1 y2 y9
        refine wp_region_J (fun W : World => ((W.cell? ⟨g, 6, none⟩ = some (.bool false) ∧ W.cell? ⟨b, 5, none⟩ = some (.slice (some ⟨rb, ro, none⟩) n n) ∧ W.cell? ⟨b, 6, none⟩ = some (.slice (some ⟨ab, ao, none⟩) n n)) ∧ (W.cell? ⟨rb, ro + i, none⟩ = some (.int .u16 (re : Nat)) ∧ W.cell? ⟨ab, ao + i, none⟩ = some (.int .u16 (at2 : Nat))) ∧ W.cell? ⟨G, 0, none⟩ = some (.int .u16 (D : Nat)) ∧ W.cell? ⟨G, 1, none⟩ = some (.int .i64 day))) (by kernel_rfl) ?_
        generalize wc.drew = wd at Bd Be ⊢
        refine wpAnyJ_take 0 (v := ?_) (by first | exact hF | exact wideFn) (HS10.out _ Bd.out) rfl (by kernel_rfl) (by kernel_rfl) (by kernel_rfl) (by kernel_rfl) rfl ?_ (by first | exact fun _ _ _ h => h | exact fun _ _ _ h => hQ2 _ _ _ _ _ h) ?_
        rotate_left
        · intro W hSW
          simp only [glA, glB, glC]
          (try dsimp only at hSW)
          go_simp
          with_reducible rfl
        (try simp only [glA, glB, glC, Act.put, glD, glE, glF])
        refine wpAnyJ_take 1 (v := ?_) (by first | exact hF | exact wideFn) (HS10.out _ Bd.out) rfl (by kernel_rfl) (by kernel_rfl) (by kernel_rfl) (by kernel_rfl) rfl ?_ (by first | exact fun _ _ _ h => h | exact fun _ _ _ h => hQ2 _ _ _ _ _ h) ?_
        rotate_left
        · intro W hSW
          simp only [glA, glB, glC]
          (try dsimp only at hSW)
          go_simp
          with_reducible rfl
        (try simp only [glA, glB, glC, Act.put, glD, glE, glF])
        refine wpAnyJ_take 2 (v := ?_) (by first | exact hF | exact wideFn) (HS10.out _ Bd.out) rfl (by kernel_rfl) (by kernel_rfl) (by kernel_rfl) (by kernel_rfl) rfl ?_ (by first | exact fun _ _ _ h => h | exact fun _ _ _ h => hQ2 _ _ _ _ _ h) ?_
        rotate_left
        · intro W hSW
          simp only [glA, glB, glC]
          (try dsimp only at hSW)
          go_simp
          with_reducible rfl
        (try simp only [glA, glB, glC, Act.put, glD, glE, glF])
        refine wpAnyJ_skip 3 (by first | exact hF | exact wideFn) (HS10.out _ Bd.out) rfl (by kernel_rfl) (by kernel_rfl) (by kernel_rfl) (by kernel_rfl) rfl (by first | exact fun _ _ _ h => h | exact fun _ _ _ h => hQ2 _ _ _ _ _ h) ?_
        (try simp only [glA, glB, glC, Act.put, glD, glE, glF])
        refine wpAnyJ_skip 4 (by first | exact hF | exact wideFn) (HS10.out _ Bd.out) rfl (by kernel_rfl) (by kernel_rfl) (by kernel_rfl) (by kernel_rfl) rfl (by first | exact fun _ _ _ h => h | exact fun _ _ _ h => hQ2 _ _ _ _ _ h) ?_
        (try simp only [glA, glB, glC, Act.put, glD, glE, glF])
        refine wpAnyJ_skip 5 (by first | exact hF | exact wideFn) (HS10.out _ Bd.out) rfl (by kernel_rfl) (by kernel_rfl) (by kernel_rfl) (by kernel_rfl) rfl (by first | exact fun _ _ _ h => h | exact fun _ _ _ h => hQ2 _ _ _ _ _ h) ?_
        (try simp only [glA, glB, glC, Act.put, glD, glE, glF])
        refine wpAnyJ_skip 6 (by first | exact hF | exact wideFn) (HS10.out _ Bd.out) rfl (by kernel_rfl) (by kernel_rfl) (by kernel_rfl) (by kernel_rfl) rfl (by first | exact fun _ _ _ h => h | exact fun _ _ _ h => hQ2 _ _ _ _ _ h) ?_
        (try simp only [glA, glB, glC, Act.put, glD, glE, glF])
        refine wpAnyJ_skip 7 (by first | exact hF | exact wideFn) (HS10.out _ Bd.out) rfl (by kernel_rfl) (by kernel_rfl) (by kernel_rfl) (by kernel_rfl) rfl (by first | exact fun _ _ _ h => h | exact fun _ _ _ h => hQ2 _ _ _ _ _ h) ?_
        (try simp only [glA, glB, glC, Act.put, glD, glE, glF])
        refine wpAnyJ_skip 8 (by first | exact hF | exact wideFn) (HS10.out _ Bd.out) rfl (by kernel_rfl) (by kernel_rfl) (by kernel_rfl) (by kernel_rfl) rfl (by first | exact fun _ _ _ h => h | exact fun _ _ _ h => hQ2 _ _ _ _ _ h) ?_
        (try simp only [glA, glB, glC, Act.put, glD, glE, glF])
        refine wpAnyJ_skip 9 (by first | exact hF | exact wideFn) (HS10.out _ Bd.out) rfl (by kernel_rfl) (by kernel_rfl) (by kernel_rfl) (by kernel_rfl) rfl (by first | exact fun _ _ _ h => h | exact fun _ _ _ h => hQ2 _ _ _ _ _ h) ?_
        (try simp only [glA, glB, glC, Act.put, glD, glE, glF])
        refine wpAnyJ_skip 10 (by first | exact hF | exact wideFn) (HS10.out _ Bd.out) rfl (by kernel_rfl) (by kernel_rfl) (by kernel_rfl) (by kernel_rfl) rfl (by first | exact fun _ _ _ h => h | exact fun _ _ _ h => hQ2 _ _ _ _ _ h) ?_
        (try simp only [glA, glB, glC, Act.put, glD, glE, glF])
        refine wpAnyJ_skip 11 (by first | exact hF | exact wideFn) (HS10.out _ Bd.out) rfl (by kernel_rfl) (by kernel_rfl) (by kernel_rfl) (by kernel_rfl) rfl (by first | exact fun _ _ _ h => h | exact fun _ _ _ h => hQ2 _ _ _ _ _ h) ?_
        (try simp only [glA, glB, glC, Act.put, glD, glE, glF])
        refine wpAnyJ_skip 12 (by first | exact hF | exact wideFn) (HS10.out _ Bd.out) rfl (by kernel_rfl) (by kernel_rfl) (by kernel_rfl) (by kernel_rfl) rfl (by first | exact fun _ _ _ h => h | exact fun _ _ _ h => hQ2 _ _ _ _ _ h) ?_
        (try simp only [glA, glB, glC, Act.put, glD, glE, glF])
        refine wpAnyJ_take 13 (v := ?_) (by first | exact hF | exact wideFn) (HS10.out _ Bd.out) rfl (by kernel_rfl) (by kernel_rfl) (by kernel_rfl) (by kernel_rfl) rfl ?_ (by first | exact fun _ _ _ h => h | exact fun _ _ _ h => hQ2 _ _ _ _ _ h) ?_
        rotate_left
        · intro W hSW
          simp only [glA, glB, glC]
          (try dsimp only at hSW)
          go_simp
          with_reducible rfl
        (try simp only [glA, glB, glC, Act.put, glD, glE, glF])
        refine wpAnyJ_take 14 (v := ?_) (by first | exact hF | exact wideFn) (HS10.out _ Bd.out) rfl (by kernel_rfl) (by kernel_rfl) (by kernel_rfl) (by kernel_rfl) rfl ?_ (by first | exact fun _ _ _ h => h | exact fun _ _ _ h => hQ2 _ _ _ _ _ h) ?_
        rotate_left
        · intro W hSW
          simp only [glA, glB, glC]
          (try dsimp only at hSW)
          go_simp
          with_reducible rfl
        (try simp only [glA, glB, glC, Act.put, glD, glE, glF])
        refine wpAnyJ_skip 15 (by first | exact hF | exact wideFn) (HS10.out _ Bd.out) rfl (by kernel_rfl) (by kernel_rfl) (by kernel_rfl) (by kernel_rfl) rfl (by first | exact fun _ _ _ h => h | exact fun _ _ _ h => hQ2 _ _ _ _ _ h) ?_
        (try simp only [glA, glB, glC, Act.put, glD, glE, glF])
        refine wpAnyJ_skip 16 (by first | exact hF | exact wideFn) (HS10.out _ Bd.out) rfl (by kernel_rfl) (by kernel_rfl) (by kernel_rfl) (by kernel_rfl) rfl (by first | exact fun _ _ _ h => h | exact fun _ _ _ h => hQ2 _ _ _ _ _ h) ?_
        (try simp only [glA, glB, glC, Act.put, glD, glE, glF])
        refine wpAnyJ_skip 17 (by first | exact hF | exact wideFn) (HS10.out _ Bd.out) rfl (by kernel_rfl) (by kernel_rfl) (by kernel_rfl) (by kernel_rfl) rfl (by first | exact fun _ _ _ h => h | exact fun _ _ _ h => hQ2 _ _ _ _ _ h) ?_
        (try simp only [glA, glB, glC, Act.put, glD, glE, glF])
        refine wpAnyJ_skip 18 (by first | exact hF | exact wideFn) (HS10.out _ Bd.out) rfl (by kernel_rfl) (by kernel_rfl) (by kernel_rfl) (by kernel_rfl) rfl (by first | exact fun _ _ _ h => h | exact fun _ _ _ h => hQ2 _ _ _ _ _ h) ?_
        (try simp only [glA, glB, glC, Act.put, glD, glE, glF])
        refine wpAnyJ_skip 19 (by first | exact hF | exact wideFn) (HS10.out _ Bd.out) rfl (by kernel_rfl) (by kernel_rfl) (by kernel_rfl) (by kernel_rfl) rfl (by first | exact fun _ _ _ h => h | exact fun _ _ _ h => hQ2 _ _ _ _ _ h) ?_
        (try simp only [glA, glB, glC, Act.put, glD, glE, glF])
        refine wpAnyJ_skip 20 (by first | exact hF | exact wideFn) (HS10.out _ Bd.out) rfl (by kernel_rfl) (by kernel_rfl) (by kernel_rfl) (by kernel_rfl) rfl (by first | exact fun _ _ _ h => h | exact fun _ _ _ h => hQ2 _ _ _ _ _ h) ?_
        (try simp only [glA, glB, glC, Act.put, glD, glE, glF])
        refine wpAnyJ_skip 21 (by first | exact hF | exact wideFn) (HS10.out _ Bd.out) rfl (by kernel_rfl) (by kernel_rfl) (by kernel_rfl) (by kernel_rfl) rfl (by first | exact fun _ _ _ h => h | exact fun _ _ _ h => hQ2 _ _ _ _ _ h) ?_
        (try simp only [glA, glB, glC, Act.put, glD, glE, glF])
        refine wpAnyJ_skip 22 (by first | exact hF | exact wideFn) (HS10.out _ Bd.out) rfl (by kernel_rfl) (by kernel_rfl) (by kernel_rfl) (by kernel_rfl) rfl (by first | exact fun _ _ _ h => h | exact fun _ _ _ h => hQ2 _ _ _ _ _ h) ?_
        (try simp only [glA, glB, glC, Act.put, glD, glE, glF])
        refine wpAnyJ_skip 23 (by first | exact hF | exact wideFn) (HS10.out _ Bd.out) rfl (by kernel_rfl) (by kernel_rfl) (by kernel_rfl) (by kernel_rfl) rfl (by first | exact fun _ _ _ h => h | exact fun _ _ _ h => hQ2 _ _ _ _ _ h) ?_
        (try simp only [glA, glB, glC, Act.put, glD, glE, glF])
        refine wpAnyJ_skip 24 (by first | exact hF | exact wideFn) (HS10.out _ Bd.out) rfl (by kernel_rfl) (by kernel_rfl) (by kernel_rfl) (by kernel_rfl) rfl (by first | exact fun _ _ _ h => h | exact fun _ _ _ h => hQ2 _ _ _ _ _ h) ?_
        (try simp only [glA, glB, glC, Act.put, glD, glE, glF])
        refine wpAnyJ_skip 25 (by first | exact hF | exact wideFn) (HS10.out _ Bd.out) rfl (by kernel_rfl) (by kernel_rfl) (by kernel_rfl) (by kernel_rfl) rfl (by first | exact fun _ _ _ h => h | exact fun _ _ _ h => hQ2 _ _ _ _ _ h) ?_
        (try simp only [glA, glB, glC, Act.put, glD, glE, glF])
        refine wpAnyJ_skip 26 (by first | exact hF | exact wideFn) (HS10.out _ Bd.out) rfl (by kernel_rfl) (by kernel_rfl) (by kernel_rfl) (by kernel_rfl) rfl (by first | exact fun _ _ _ h => h | exact fun _ _ _ h => hQ2 _ _ _ _ _ h) ?_
        (try simp only [glA, glB, glC, Act.put, glD, glE, glF])
        refine wpAnyJ_skip 27 (by first | exact hF | exact wideFn) (HS10.out _ Bd.out) rfl (by kernel_rfl) (by kernel_rfl) (by kernel_rfl) (by kernel_rfl) rfl (by first | exact fun _ _ _ h => h | exact fun _ _ _ h => hQ2 _ _ _ _ _ h) ?_
        (try simp only [glA, glB, glC, Act.put, glD, glE, glF])
        refine wpAnyJ_skip 28 (by first | exact hF | exact wideFn) (HS10.out _ Bd.out) rfl (by kernel_rfl) (by kernel_rfl) (by kernel_rfl) (by kernel_rfl) rfl (by first | exact fun _ _ _ h => h | exact fun _ _ _ h => hQ2 _ _ _ _ _ h) ?_
        (try simp only [glA, glB, glC, Act.put, glD, glE, glF])
        refine wpAnyJ_skip 29 (by first | exact hF | exact wideFn) (HS10.out _ Bd.out) rfl (by kernel_rfl) (by kernel_rfl) (by kernel_rfl) (by kernel_rfl) rfl (by first | exact fun _ _ _ h => h | exact fun _ _ _ h => hQ2 _ _ _ _ _ h) ?_
        (try simp only [glA, glB, glC, Act.put, glD, glE, glF])
        refine wpAnyJ_take 30 (v := ?_) (by first | exact hF | exact wideFn) (HS10.out _ Bd.out) rfl (by kernel_rfl) (by kernel_rfl) (by kernel_rfl) (by kernel_rfl) rfl ?_ (by first | exact fun _ _ _ h => h | exact fun _ _ _ h => hQ2 _ _ _ _ _ h) ?_
        rotate_left
        · intro W hSW
          simp only [glA, glB, glC]
          (try dsimp only at hSW)
          go_simp
          with_reducible rfl
        (try simp only [glA, glB, glC, Act.put, glD, glE, glF])
        refine wpAnyJ_take 31 (v := ?_) (by first | exact hF | exact wideFn) (HS10.out _ Bd.out) rfl (by kernel_rfl) (by kernel_rfl) (by kernel_rfl) (by kernel_rfl) rfl ?_ (by first | exact fun _ _ _ h => h | exact fun _ _ _ h => hQ2 _ _ _ _ _ h) ?_
        rotate_left
        · intro W hSW
          simp only [glA, glB, glC]
          (try dsimp only at hSW)
          go_simp
          with_reducible rfl
        (try simp only [glA, glB, glC, Act.put, glD, glE, glF])
        refine wpAnyJ_done (by kernel_rfl) ?_
        go_upto_region 12 with fail
        have HS12 : Hid (∀ W, Below wc.heap.size wc W → (W.cell? ⟨G, 2, none⟩ = some (.int .i64 de) ∧ W.cell? ⟨b, 2, none⟩ = some (.int .i64 r.toil))) := hide fun W h => ⟨(blk3 (G1.out.ext h)).2.2.2.1, (bx8 (HBK.out.blk.ext h)).2.2.2.1⟩
        have Bq := hide (Bd.out.trans ((Below.refl wd.heap.size wd).drew.mono Bd.out.size))
        have Br := hide (Be.out.trans ((Below.refl wd.heap.size wd).drew.mono Be.out.size))
        refine wp_region_J (fun W : World => (W.cell? ⟨G, 2, none⟩ = some (.int .i64 de) ∧ W.cell? ⟨b, 2, none⟩ = some (.int .i64 r.toil))) (by kernel_rfl) ?_
        generalize wd.drew = wq at Bq Br ⊢
        by_cases h5 : r.toil ≤ de
        · rw [if_pos h5] at HBR
          have h5' : de ≥ r.toil := h5
          refine wpAnyJ_take 0 (v := ?_) (by first | exact hF | exact wideFn) (HS12.out _ Bq.out) rfl (by kernel_rfl) (by kernel_rfl) (by kernel_rfl) (by kernel_rfl) rfl ?_ (by first | exact fun _ _ _ h => h | exact fun _ _ _ h => hQ2 _ _ _ _ _ h) ?_
          rotate_left
          · intro W hSW
            simp only [glA, glB, glC]
            (try dsimp only at hSW)
            go_simp
            with_reducible rfl
          (try simp only [glA, glB, glC, Act.put, glD, glE, glF])
          refine wpAnyJ_take 1 (v := ?_) (by first | exact hF | exact wideFn) (HS12.out _ Bq.out) rfl (by kernel_rfl) (by kernel_rfl) (by kernel_rfl) (by kernel_rfl) rfl ?_ (by first | exact fun _ _ _ h => h | exact fun _ _ _ h => hQ2 _ _ _ _ _ h) ?_
          rotate_left
          · intro W hSW
            simp only [glA, glB, glC]
            (try dsimp only at hSW)
            go_simp
            with_reducible rfl
          (try simp only [glA, glB, glC, Act.put, glD, glE, glF])
          refine wpAnyJ_take 2 (v := ?_) (by first | exact hF | exact wideFn) (HS12.out _ Bq.out) rfl (by kernel_rfl) (by kernel_rfl) (by kernel_rfl) (by kernel_rfl) rfl ?_ (by first | exact fun _ _ _ h => h | exact fun _ _ _ h => hQ2 _ _ _ _ _ h) ?_
          rotate_left
          · intro W hSW
            simp only [glA, glB, glC]
            (try dsimp only at hSW)
            go_simp
            with_reducible rfl
          (try simp only [glA, glB, glC, Act.put, glD, glE, glF])
          refine wpAnyJ_take 3 (v := ?_) (by first | exact hF | exact wideFn) (HS12.out _ Bq.out) rfl (by kernel_rfl) (by kernel_rfl) (by kernel_rfl) (by kernel_rfl) rfl ?_ (by first | exact fun _ _ _ h => h | exact fun _ _ _ h => hQ2 _ _ _ _ _ h) ?_
          rotate_left
          · intro W hSW
            simp only [glA, glB, glC]
            (try dsimp only at hSW)
            go_simp
            with_reducible rfl
          (try simp only [glA, glB, glC, Act.put, glD, glE, glF])
          refine wpAnyJ_take 4 (v := ?_) (by first | exact hF | exact wideFn) (HS12.out _ Bq.out) rfl (by kernel_rfl) (by kernel_rfl) (by kernel_rfl) (by kernel_rfl) rfl ?_ (by first | exact fun _ _ _ h => h | exact fun _ _ _ h => hQ2 _ _ _ _ _ h) ?_
          rotate_left
          · intro W hSW
            simp only [glA, glB, glC]
            (try dsimp only at hSW)
            go_simp
            with_reducible rfl
          (try simp only [glA, glB, glC, Act.put, glD, glE, glF])
          refine wpAnyJ_take 5 (v := ?_) (by first | exact hF | exact wideFn) (HS12.out _ Bq.out) rfl (by kernel_rfl) (by kernel_rfl) (by kernel_rfl) (by kernel_rfl) rfl ?_ (by first | exact fun _ _ _ h => h | exact fun _ _ _ h => hQ2 _ _ _ _ _ h) ?_
          rotate_left
          · intro W hSW
            simp only [glA, glB, glC]
            (try dsimp only at hSW)
            go_simp
            with_reducible rfl
          (try simp only [glA, glB, glC, Act.put, glD, glE, glF])
          refine wpAnyJ_take 6 (v := ?_) (by first | exact hF | exact wideFn) (HS12.out _ Bq.out) rfl (by kernel_rfl) (by kernel_rfl) (by kernel_rfl) (by kernel_rfl) rfl ?_ (by first | exact fun _ _ _ h => h | exact fun _ _ _ h => hQ2 _ _ _ _ _ h) ?_
          rotate_left
          · intro W hSW
            simp only [glA, glB, glC]
            (try dsimp only at hSW)
            go_simp
            with_reducible rfl
          (try simp only [glA, glB, glC, Act.put, glD, glE, glF])
          refine wpAnyJ_take 7 (v := ?_) (by first | exact hF | exact wideFn) (HS12.out _ Bq.out) rfl (by kernel_rfl) (by kernel_rfl) (by kernel_rfl) (by kernel_rfl) rfl ?_ (by first | exact fun _ _ _ h => h | exact fun _ _ _ h => hQ2 _ _ _ _ _ h) ?_
          rotate_left
          · intro W hSW
            simp only [glA, glB, glC]
            (try dsimp only at hSW)
            go_simp
            with_reducible rfl
          (try simp only [glA, glB, glC, Act.put, glD, glE, glF])
          refine wpAnyJ_take 8 (v := ?_) (by first | exact hF | exact wideFn) (HS12.out _ Bq.out) rfl (by kernel_rfl) (by kernel_rfl) (by kernel_rfl) (by kernel_rfl) rfl ?_ (by first | exact fun _ _ _ h => h | exact fun _ _ _ h => hQ2 _ _ _ _ _ h) ?_
          rotate_left
          · intro W hSW
            simp only [glA, glB, glC]
            (try dsimp only at hSW)
            go_simp
            with_reducible rfl
          (try simp only [glA, glB, glC, Act.put, glD, glE, glF])
          refine wpAnyJ_done (by kernel_rfl) ?_
          go_wp2_with fail
          go_ret
          exact ⟨ret_int HBR.out.symm, Br.out⟩
        · rw [if_neg h5] at HBR
          have h5' : ¬ de ≥ r.toil := h5
          refine wpAnyJ_take 0 (v := ?_) (by first | exact hF | exact wideFn) (HS12.out _ Bq.out) rfl (by kernel_rfl) (by kernel_rfl) (by kernel_rfl) (by kernel_rfl) rfl ?_ (by first | exact fun _ _ _ h => h | exact fun _ _ _ h => hQ2 _ _ _ _ _ h) ?_
          rotate_left
          · intro W hSW
            simp only [glA, glB, glC]
            (try dsimp only at hSW)
            go_simp
            with_reducible rfl
          (try simp only [glA, glB, glC, Act.put, glD, glE, glF])
          refine wpAnyJ_take 1 (v := ?_) (by first | exact hF | exact wideFn) (HS12.out _ Bq.out) rfl (by kernel_rfl) (by kernel_rfl) (by kernel_rfl) (by kernel_rfl) rfl ?_ (by first | exact fun _ _ _ h => h | exact fun _ _ _ h => hQ2 _ _ _ _ _ h) ?_
          rotate_left
          · intro W hSW
            simp only [glA, glB, glC]
            (try dsimp only at hSW)
            go_simp
            with_reducible rfl
          (try simp only [glA, glB, glC, Act.put, glD, glE, glF])
          refine wpAnyJ_take 2 (v := ?_) (by first | exact hF | exact wideFn) (HS12.out _ Bq.out) rfl (by kernel_rfl) (by kernel_rfl) (by kernel_rfl) (by kernel_rfl) rfl ?_ (by first | exact fun _ _ _ h => h | exact fun _ _ _ h => hQ2 _ _ _ _ _ h) ?_
          rotate_left
          · intro W hSW
            simp only [glA, glB, glC]
            (try dsimp only at hSW)
            go_simp
            with_reducible rfl
          (try simp only [glA, glB, glC, Act.put, glD, glE, glF])
          refine wpAnyJ_take 3 (v := ?_) (by first | exact hF | exact wideFn) (HS12.out _ Bq.out) rfl (by kernel_rfl) (by kernel_rfl) (by kernel_rfl) (by kernel_rfl) rfl ?_ (by first | exact fun _ _ _ h => h | exact fun _ _ _ h => hQ2 _ _ _ _ _ h) ?_
          rotate_left
          · intro W hSW
            simp only [glA, glB, glC]
            (try dsimp only at hSW)
            go_simp
            with_reducible rfl
          (try simp only [glA, glB, glC, Act.put, glD, glE, glF])
          refine wpAnyJ_take 4 (v := ?_) (by first | exact hF | exact wideFn) (HS12.out _ Bq.out) rfl (by kernel_rfl) (by kernel_rfl) (by kernel_rfl) (by kernel_rfl) rfl ?_ (by first | exact fun _ _ _ h => h | exact fun _ _ _ h => hQ2 _ _ _ _ _ h) ?_
          rotate_left
          · intro W hSW
            simp only [glA, glB, glC]
            (try dsimp only at hSW)
            go_simp
            with_reducible rfl
          (try simp only [glA, glB, glC, Act.put, glD, glE, glF])
          refine wpAnyJ_take 5 (v := ?_) (by first | exact hF | exact wideFn) (HS12.out _ Bq.out) rfl (by kernel_rfl) (by kernel_rfl) (by kernel_rfl) (by kernel_rfl) rfl ?_ (by first | exact fun _ _ _ h => h | exact fun _ _ _ h => hQ2 _ _ _ _ _ h) ?_
          rotate_left
          · intro W hSW
            simp only [glA, glB, glC]
            (try dsimp only at hSW)
            go_simp
            with_reducible rfl
          (try simp only [glA, glB, glC, Act.put, glD, glE, glF])
          refine wpAnyJ_take 6 (v := ?_) (by first | exact hF | exact wideFn) (HS12.out _ Bq.out) rfl (by kernel_rfl) (by kernel_rfl) (by kernel_rfl) (by kernel_rfl) rfl ?_ (by first | exact fun _ _ _ h => h | exact fun _ _ _ h => hQ2 _ _ _ _ _ h) ?_
          rotate_left
          · intro W hSW
            simp only [glA, glB, glC]
            (try dsimp only at hSW)
            go_simp
            with_reducible rfl
          (try simp only [glA, glB, glC, Act.put, glD, glE, glF])
          refine wpAnyJ_take 7 (v := ?_) (by first | exact hF | exact wideFn) (HS12.out _ Bq.out) rfl (by kernel_rfl) (by kernel_rfl) (by kernel_rfl) (by kernel_rfl) rfl ?_ (by first | exact fun _ _ _ h => h | exact fun _ _ _ h => hQ2 _ _ _ _ _ h) ?_
          rotate_left
          · intro W hSW
            simp only [glA, glB, glC]
            (try dsimp only at hSW)
            go_simp
            with_reducible rfl
          (try simp only [glA, glB, glC, Act.put, glD, glE, glF])
          refine wpAnyJ_take 8 (v := ?_) (by first | exact hF | exact wideFn) (HS12.out _ Bq.out) rfl (by kernel_rfl) (by kernel_rfl) (by kernel_rfl) (by kernel_rfl) rfl ?_ (by first | exact fun _ _ _ h => h | exact fun _ _ _ h => hQ2 _ _ _ _ _ h) ?_
          rotate_left
          · intro W hSW
            simp only [glA, glB, glC]
            (try dsimp only at hSW)
            go_simp
            with_reducible rfl
          (try simp only [glA, glB, glC, Act.put, glD, glE, glF])
          refine wpAnyJ_done (by kernel_rfl) ?_
          go_wp2_with fail
          go_ret
          exact ⟨ret_int HBR.out.symm, Br.out⟩
    | true =>
      rw [Bool.not_true, Bool.false_and, if_neg (by decide)] at HBR
      rw [Bool.true_and] at HBR
      go_wp2_with fail
      refine (HHA.out _).mono ?_
      rintro e w4 ⟨rfl, rfl⟩
      go_upto_region 6 with fail
      by_cases h2 : day < fr ∨ to_ < day
      · rw [if_pos h2] at HBR
        have hw : (decide (fr ≤ day) && decide (day ≤ to_)) = false := by
          rcases h2 with h | h
          · rw [decide_eq_false (show ¬ fr ≤ day by omega)]; rfl
          · rw [decide_eq_false (show ¬ day ≤ to_ by omega), Bool.and_false]
        have HW3 := hide (HW.out day fr to_)
        rw [hw] at HW3
        clear hw h2
        go_wp2_with fail
        refine (HW3.out _).mono ?_
        rintro e w5 ⟨rfl, rfl⟩
        go_wp2_with fail
        go_ret
        exact ⟨ret_int HBR.out.symm, HBF.out⟩
      rw [if_neg h2] at HBR
      have hw : (decide (fr ≤ day) && decide (day ≤ to_)) = true := by
        rw [decide_eq_true (show fr ≤ day by omega), decide_eq_true (show day ≤ to_ by omega)]; rfl
      have HW3 := hide (HW.out day fr to_)
      rw [hw] at HW3
      clear hw h2
      go_wp2_with fail
      refine (HW3.out _).mono ?_
      rintro e w5 ⟨rfl, rfl⟩
      go_upto_region 8 with fail
      obtain ⟨nb, no, hpn, hnl, hnc⟩ := VR1.at_ HBK.out.sn hi'
      have c3 := (bx8 HBK.out.blk).2.2.2.2.1
      rw [HN.out, hpn] at c3
      rw [HA.out] at hnc
      dsimp only at hnc
      have a3 := not16 (seL_lt nd) HSE.out.2
      have HSN := hide (seL_lt nd)
      obtain ⟨z, hz⟩ : ∃ z, anN (seL nd) (seS r D) = z := ⟨_, rfl⟩
      rw [hz] at a3 HNE
      generalize seL nd = sn at a3 hnc HSN
      clear hz hpn
      cases hne : neB r D i with
      | false =>
        rw [hne] at HBR HNE
        rw [Bool.not_false, if_pos rfl] at HBR
        have hz1 : ((z : Int) == 0) = false := by
          rw [beq_eq_false_iff_ne]
          intro h
          have := HNE.out.1 (by omega)
          cases this
        have hz2 : ((z : Int) != 0) = true := by rw [bne, hz1]; rfl
        clear hne HNE
        go_wp2_with fail
        go_ret
        exact ⟨ret_int HBR.out.symm, HBF.out⟩
      | true =>
      rw [hne] at HBR HNE
      rw [Bool.not_true, if_neg (by decide)] at HBR
      obtain rfl := HNE.out.2 rfl
      clear hne HNE
      go_upto_region 10 with fail
      obtain ⟨rb, ro, hpr, hrl, hrc⟩ := VR1.at_ HBK.out.sr hi'
      obtain ⟨ab, ao, hpa, hal, hac⟩ := VR1.at_ HBK.out.sa hi'
      obtain ⟨re, hre⟩ : ∃ x, reS r i = x := ⟨_, rfl⟩
      obtain ⟨at2, hat⟩ : ∃ x, atS r i = x := ⟨_, rfl⟩
      rw [hre] at hrc HLT HUS
      rw [hat] at hac HLT HUS
      have HS10 : Hid (∀ W, Below wc.heap.size wc W → ((W.cell? ⟨g, 6, none⟩ = some (.bool true) ∧ W.cell? ⟨b, 5, none⟩ = some (.slice (some ⟨rb, ro, none⟩) n n) ∧ W.cell? ⟨b, 6, none⟩ = some (.slice (some ⟨ab, ao, none⟩) n n)) ∧ (W.cell? ⟨rb, ro + i, none⟩ = some (.int .u16 (re : Nat)) ∧ W.cell? ⟨ab, ao + i, none⟩ = some (.int .u16 (at2 : Nat))) ∧ W.cell? ⟨G, 0, none⟩ = some (.int .u16 (D : Nat)) ∧ W.cell? ⟨G, 1, none⟩ = some (.int .i64 day))) := hide fun W h => ⟨⟨(bx7 (HG7.out.ext h)).2.2.2.2.2.2.2, by
        have := (bx8 (HBK.out.blk.ext h)).2.2.2.2.2.2.1
        rw [HN.out, hpr] at this
        exact this, by
        have := (bx8 (HBK.out.blk.ext h)).2.2.2.2.2.2.2.1
        rw [HN.out, hpa] at this
        exact this⟩, ⟨(h.cell (p := ⟨rb, ro + i, none⟩) hrl).trans hrc, (h.cell (p := ⟨ab, ao + i, none⟩) hal).trans hac⟩, (blk3 (G1.out.ext h)).2.1, (blk3 (G1.out.ext h)).2.2.1⟩
      have Bd := hide ((Below.refl wc.heap.size wc).drew)
      have Be := hide (HBF.out.trans ((Below.refl wc.heap.size wc).drew.mono HBF.out.size))
      clear hpr hrl hrc hpa hal hac hre hat x4 x5 x6 x9 y0 y1 y2 y9
      refine wp_region_J (fun W : World => ((W.cell? ⟨g, 6, none⟩ = some (.bool true) ∧ W.cell? ⟨b, 5, none⟩ = some (.slice (some ⟨rb, ro, none⟩) n n) ∧ W.cell? ⟨b, 6, none⟩ = some (.slice (some ⟨ab, ao, none⟩) n n)) ∧ (W.cell? ⟨rb, ro + i, none⟩ = some (.int .u16 (re : Nat)) ∧ W.cell? ⟨ab, ao + i, none⟩ = some (.int .u16 (at2 : Nat))) ∧ W.cell? ⟨G, 0, none⟩ = some (.int .u16 (D : Nat)) ∧ W.cell? ⟨G, 1, none⟩ = some (.int .i64 day))) (by kernel_rfl) ?_
      generalize wc.drew = wd at Bd Be ⊢
      have a4 := not16 HLT.out.1 HSE.out.2
      have a5 := and16 HLT.out.2.1 HLT.out.2.2
      obtain ⟨z1, hz1⟩ : ∃ z, anN re (seS r D) = z := ⟨_, rfl⟩
      obtain ⟨z2, hz2⟩ : ∃ z, at2 &&& foS r D day = z := ⟨_, rfl⟩
      rw [hz1] at a4 HUS
      rw [hz2] at a5 HUS
      clear hz1 hz2
      by_cases h1 : z1 = 0
      · have f1 : ((z1 : Int) == 0) = true := by rw [h1]; rfl
        refine wpAnyJ_take 0 (v := ?_) (by first | exact hF | exact wideFn) (HS10.out _ Bd.out) rfl (by kernel_rfl) (by kernel_rfl) (by kernel_rfl) (by kernel_rfl) rfl ?_ (by first | exact fun _ _ _ h => h | exact fun _ _ _ h => hQ2 _ _ _ _ _ h) ?_
        rotate_left
        · intro W hSW
          simp only [glA, glB, glC]
          (try dsimp only at hSW)
          go_simp
          with_reducible rfl
        (try simp only [glA, glB, glC, Act.put, glD, glE, glF])
        refine wpAnyJ_take 1 (v := ?_) (by first | exact hF | exact wideFn) (HS10.out _ Bd.out) rfl (by kernel_rfl) (by kernel_rfl) (by kernel_rfl) (by kernel_rfl) rfl ?_ (by first | exact fun _ _ _ h => h | exact fun _ _ _ h => hQ2 _ _ _ _ _ h) ?_
        rotate_left
        · intro W hSW
          simp only [glA, glB, glC]
          (try dsimp only at hSW)
          go_simp
          with_reducible rfl
        (try simp only [glA, glB, glC, Act.put, glD, glE, glF])
        refine wpAnyJ_take 2 (v := ?_) (by first | exact hF | exact wideFn) (HS10.out _ Bd.out) rfl (by kernel_rfl) (by kernel_rfl) (by kernel_rfl) (by kernel_rfl) rfl ?_ (by first | exact fun _ _ _ h => h | exact fun _ _ _ h => hQ2 _ _ _ _ _ h) ?_
        rotate_left
        · intro W hSW
          simp only [glA, glB, glC]
          (try dsimp only at hSW)
          go_simp
          with_reducible rfl
        (try simp only [glA, glB, glC, Act.put, glD, glE, glF])
        refine wpAnyJ_take 3 (v := ?_) (by first | exact hF | exact wideFn) (HS10.out _ Bd.out) rfl (by kernel_rfl) (by kernel_rfl) (by kernel_rfl) (by kernel_rfl) rfl ?_ (by first | exact fun _ _ _ h => h | exact fun _ _ _ h => hQ2 _ _ _ _ _ h) ?_
        rotate_left
        · intro W hSW
          simp only [glA, glB, glC]
          (try dsimp only at hSW)
          go_simp
          with_reducible rfl
        (try simp only [glA, glB, glC, Act.put, glD, glE, glF])
        refine wpAnyJ_take 4 (v := ?_) (by first | exact hF | exact wideFn) (HS10.out _ Bd.out) rfl (by kernel_rfl) (by kernel_rfl) (by kernel_rfl) (by kernel_rfl) rfl ?_ (by first | exact fun _ _ _ h => h | exact fun _ _ _ h => hQ2 _ _ _ _ _ h) ?_
        rotate_left
        · intro W hSW
          simp only [glA, glB, glC]
          (try dsimp only at hSW)
          go_simp
          with_reducible rfl
        (try simp only [glA, glB, glC, Act.put, glD, glE, glF])
        refine wpAnyJ_take 5 (v := ?_) (by first | exact hF | exact wideFn) (HS10.out _ Bd.out) rfl (by kernel_rfl) (by kernel_rfl) (by kernel_rfl) (by kernel_rfl) rfl ?_ (by first | exact fun _ _ _ h => h | exact fun _ _ _ h => hQ2 _ _ _ _ _ h) ?_
        rotate_left
        · intro W hSW
          simp only [glA, glB, glC]
          (try dsimp only at hSW)
          go_simp
          with_reducible rfl
        (try simp only [glA, glB, glC, Act.put, glD, glE, glF])
        refine wpAnyJ_take 6 (v := ?_) (by first | exact hF | exact wideFn) (HS10.out _ Bd.out) rfl (by kernel_rfl) (by kernel_rfl) (by kernel_rfl) (by kernel_rfl) rfl ?_ (by first | exact fun _ _ _ h => h | exact fun _ _ _ h => hQ2 _ _ _ _ _ h) ?_
        rotate_left
        · intro W hSW
          simp only [glA, glB, glC]
          (try dsimp only at hSW)
          go_simp
          with_reducible rfl
        (try simp only [glA, glB, glC, Act.put, glD, glE, glF])
        refine wpAnyJ_take 7 (v := ?_) (by first | exact hF | exact wideFn) (HS10.out _ Bd.out) rfl (by kernel_rfl) (by kernel_rfl) (by kernel_rfl) (by kernel_rfl) rfl ?_ (by first | exact fun _ _ _ h => h | exact fun _ _ _ h => hQ2 _ _ _ _ _ h) ?_
        rotate_left
        · intro W hSW
          simp only [glA, glB, glC]
          (try dsimp only at hSW)
          go_simp
          with_reducible rfl
        (try simp only [glA, glB, glC, Act.put, glD, glE, glF])
        refine wpAnyJ_take 8 (v := ?_) (by first | exact hF | exact wideFn) (HS10.out _ Bd.out) rfl (by kernel_rfl) (by kernel_rfl) (by kernel_rfl) (by kernel_rfl) rfl ?_ (by first | exact fun _ _ _ h => h | exact fun _ _ _ h => hQ2 _ _ _ _ _ h) ?_
        rotate_left
        · intro W hSW
          simp only [glA, glB, glC]
          (try dsimp only at hSW)
          go_simp
          with_reducible rfl
        (try simp only [glA, glB, glC, Act.put, glD, glE, glF])
        refine wpAnyJ_take 9 (v := ?_) (by first | exact hF | exact wideFn) (HS10.out _ Bd.out) rfl (by kernel_rfl) (by kernel_rfl) (by kernel_rfl) (by kernel_rfl) rfl ?_ (by first | exact fun _ _ _ h => h | exact fun _ _ _ h => hQ2 _ _ _ _ _ h) ?_
        rotate_left
        · intro W hSW
          simp only [glA, glB, glC]
          (try dsimp only at hSW)
          go_simp
          with_reducible rfl
        (try simp only [glA, glB, glC, Act.put, glD, glE, glF])
        refine wpAnyJ_take 10 (v := ?_) (by first | exact hF | exact wideFn) (HS10.out _ Bd.out) rfl (by kernel_rfl) (by kernel_rfl) (by kernel_rfl) (by kernel_rfl) rfl ?_ (by first | exact fun _ _ _ h => h | exact fun _ _ _ h => hQ2 _ _ _ _ _ h) ?_
        rotate_left
        · intro W hSW
          simp only [glA, glB, glC]
          (try dsimp only at hSW)
          go_simp
          with_reducible rfl
        (try simp only [glA, glB, glC, Act.put, glD, glE, glF])
        refine wpAnyJ_take 11 (v := ?_) (by first | exact hF | exact wideFn) (HS10.out _ Bd.out) rfl (by kernel_rfl) (by kernel_rfl) (by kernel_rfl) (by kernel_rfl) rfl ?_ (by first | exact fun _ _ _ h => h | exact fun _ _ _ h => hQ2 _ _ _ _ _ h) ?_
        rotate_left
        · intro W hSW
          simp only [glA, glB, glC]
          (try dsimp only at hSW)
          go_simp
          with_reducible rfl
        (try simp only [glA, glB, glC, Act.put, glD, glE, glF])
        refine wpAnyJ_take 12 (v := ?_) (by first | exact hF | exact wideFn) (HS10.out _ Bd.out) rfl (by kernel_rfl) (by kernel_rfl) (by kernel_rfl) (by kernel_rfl) rfl ?_ (by first | exact fun _ _ _ h => h | exact fun _ _ _ h => hQ2 _ _ _ _ _ h) ?_
        rotate_left
        · intro W hSW
          simp only [glA, glB, glC]
          (try dsimp only at hSW)
          go_simp
          with_reducible rfl
        (try simp only [glA, glB, glC, Act.put, glD, glE, glF])
        refine wpAnyJ_take 13 (v := ?_) (by first | exact hF | exact wideFn) (HS10.out _ Bd.out) rfl (by kernel_rfl) (by kernel_rfl) (by kernel_rfl) (by kernel_rfl) rfl ?_ (by first | exact fun _ _ _ h => h | exact fun _ _ _ h => hQ2 _ _ _ _ _ h) ?_
        rotate_left
        · intro W hSW
          simp only [glA, glB, glC]
          (try dsimp only at hSW)
          go_simp
          with_reducible rfl
        (try simp only [glA, glB, glC, Act.put, glD, glE, glF])
        refine wpAnyJ_take 14 (v := ?_) (by first | exact hF | exact wideFn) (HS10.out _ Bd.out) rfl (by kernel_rfl) (by kernel_rfl) (by kernel_rfl) (by kernel_rfl) rfl ?_ (by first | exact fun _ _ _ h => h | exact fun _ _ _ h => hQ2 _ _ _ _ _ h) ?_
        rotate_left
        · intro W hSW
          simp only [glA, glB, glC]
          (try dsimp only at hSW)
          go_simp
          with_reducible rfl
        (try simp only [glA, glB, glC, Act.put, glD, glE, glF])
        refine wpAnyJ_take 15 (v := ?_) (by first | exact hF | exact wideFn) (HS10.out _ Bd.out) rfl (by kernel_rfl) (by kernel_rfl) (by kernel_rfl) (by kernel_rfl) rfl ?_ (by first | exact fun _ _ _ h => h | exact fun _ _ _ h => hQ2 _ _ _ _ _ h) ?_
        rotate_left
        · intro W hSW
          simp only [glA, glB, glC]
          (try dsimp only at hSW)
          go_simp
          with_reducible rfl
        (try simp only [glA, glB, glC, Act.put, glD, glE, glF])
        refine wpAnyJ_take 16 (v := ?_) (by first | exact hF | exact wideFn) (HS10.out _ Bd.out) rfl (by kernel_rfl) (by kernel_rfl) (by kernel_rfl) (by kernel_rfl) rfl ?_ (by first | exact fun _ _ _ h => h | exact fun _ _ _ h => hQ2 _ _ _ _ _ h) ?_
        rotate_left
        · intro W hSW
          simp only [glA, glB, glC]
          (try dsimp only at hSW)
          go_simp
          with_reducible rfl
        (try simp only [glA, glB, glC, Act.put, glD, glE, glF])
        refine wpAnyJ_take 17 (v := ?_) (by first | exact hF | exact wideFn) (HS10.out _ Bd.out) rfl (by kernel_rfl) (by kernel_rfl) (by kernel_rfl) (by kernel_rfl) rfl ?_ (by first | exact fun _ _ _ h => h | exact fun _ _ _ h => hQ2 _ _ _ _ _ h) ?_
        rotate_left
        · intro W hSW
          simp only [glA, glB, glC]
          (try dsimp only at hSW)
          go_simp
          with_reducible rfl
        (try simp only [glA, glB, glC, Act.put, glD, glE, glF])
        refine wpAnyJ_take 18 (v := ?_) (by first | exact hF | exact wideFn) (HS10.out _ Bd.out) rfl (by kernel_rfl) (by kernel_rfl) (by kernel_rfl) (by kernel_rfl) rfl ?_ (by first | exact fun _ _ _ h => h | exact fun _ _ _ h => hQ2 _ _ _ _ _ h) ?_
        rotate_left
        · intro W hSW
          simp only [glA, glB, glC]
          (try dsimp only at hSW)
          go_simp
          with_reducible rfl
        (try simp only [glA, glB, glC, Act.put, glD, glE, glF])
        refine wpAnyJ_take 19 (v := ?_) (by first | exact hF | exact wideFn) (HS10.out _ Bd.out) rfl (by kernel_rfl) (by kernel_rfl) (by kernel_rfl) (by kernel_rfl) rfl ?_ (by first | exact fun _ _ _ h => h | exact fun _ _ _ h => hQ2 _ _ _ _ _ h) ?_
        rotate_left
        · intro W hSW
          simp only [glA, glB, glC]
          (try dsimp only at hSW)
          go_simp
          with_reducible rfl
        (try simp only [glA, glB, glC, Act.put, glD, glE, glF])
        refine wpAnyJ_take 20 (v := ?_) (by first | exact hF | exact wideFn) (HS10.out _ Bd.out) rfl (by kernel_rfl) (by kernel_rfl) (by kernel_rfl) (by kernel_rfl) rfl ?_ (by first | exact fun _ _ _ h => h | exact fun _ _ _ h => hQ2 _ _ _ _ _ h) ?_
        rotate_left
        · intro W hSW
          simp only [glA, glB, glC]
          (try dsimp only at hSW)
          go_simp
          with_reducible rfl
        (try simp only [glA, glB, glC, Act.put, glD, glE, glF])
        refine wpAnyJ_take 21 (v := ?_) (by first | exact hF | exact wideFn) (HS10.out _ Bd.out) rfl (by kernel_rfl) (by kernel_rfl) (by kernel_rfl) (by kernel_rfl) rfl ?_ (by first | exact fun _ _ _ h => h | exact fun _ _ _ h => hQ2 _ _ _ _ _ h) ?_
        rotate_left
        · intro W hSW
          simp only [glA, glB, glC]
          (try dsimp only at hSW)
          go_simp
          with_reducible rfl
        (try simp only [glA, glB, glC, Act.put, glD, glE, glF])
        refine wpAnyJ_take 22 (v := ?_) (by first | exact hF | exact wideFn) (HS10.out _ Bd.out) rfl (by kernel_rfl) (by kernel_rfl) (by kernel_rfl) (by kernel_rfl) rfl ?_ (by first | exact fun _ _ _ h => h | exact fun _ _ _ h => hQ2 _ _ _ _ _ h) ?_
        rotate_left
        · intro W hSW
          simp only [glA, glB, glC]
          (try dsimp only at hSW)
          go_simp
          with_reducible rfl
        (try simp only [glA, glB, glC, Act.put, glD, glE, glF])
        refine wpAnyJ_take 23 (v := ?_) (by first | exact hF | exact wideFn) (HS10.out _ Bd.out) rfl (by kernel_rfl) (by kernel_rfl) (by kernel_rfl) (by kernel_rfl) rfl ?_ (by first | exact fun _ _ _ h => h | exact fun _ _ _ h => hQ2 _ _ _ _ _ h) ?_
        rotate_left
        · intro W hSW
          simp only [glA, glB, glC]
          (try dsimp only at hSW)
          go_simp
          with_reducible rfl
        (try simp only [glA, glB, glC, Act.put, glD, glE, glF])
        refine wpAnyJ_take 24 (v := ?_) (by first | exact hF | exact wideFn) (HS10.out _ Bd.out) rfl (by kernel_rfl) (by kernel_rfl) (by kernel_rfl) (by kernel_rfl) rfl ?_ (by first | exact fun _ _ _ h => h | exact fun _ _ _ h => hQ2 _ _ _ _ _ h) ?_
        rotate_left
        · intro W hSW
          simp only [glA, glB, glC]
          (try dsimp only at hSW)
          go_simp
          with_reducible rfl
        (try simp only [glA, glB, glC, Act.put, glD, glE, glF])
        refine wpAnyJ_take 25 (v := ?_) (by first | exact hF | exact wideFn) (HS10.out _ Bd.out) rfl (by kernel_rfl) (by kernel_rfl) (by kernel_rfl) (by kernel_rfl) rfl ?_ (by first | exact fun _ _ _ h => h | exact fun _ _ _ h => hQ2 _ _ _ _ _ h) ?_
        rotate_left
        · intro W hSW
          simp only [glA, glB, glC]
          (try dsimp only at hSW)
          go_simp
          with_reducible rfl
        (try simp only [glA, glB, glC, Act.put, glD, glE, glF])
        refine wpAnyJ_take 26 (v := ?_) (by first | exact hF | exact wideFn) (HS10.out _ Bd.out) rfl (by kernel_rfl) (by kernel_rfl) (by kernel_rfl) (by kernel_rfl) rfl ?_ (by first | exact fun _ _ _ h => h | exact fun _ _ _ h => hQ2 _ _ _ _ _ h) ?_
        rotate_left
        · intro W hSW
          simp only [glA, glB, glC]
          (try dsimp only at hSW)
          go_simp
          with_reducible rfl
        (try simp only [glA, glB, glC, Act.put, glD, glE, glF])
        refine wpAnyJ_one 27 rfl (by kernel_rfl) (fun K hK => ?_)
        simp only [glA, glB, glC]
        go_simp
        refine ⟨trivial, rfl, ?_⟩
        refine (callsIn_wide.2 (HFO.out wd (HBK.out.ext Bd.out))).mono ?_
        rintro e wf ⟨rfl, hbf⟩
        have Bf := hide (Bd.out.trans (hbf.mono Bd.out.size)); have Bg := hide (Be.out.trans (hbf.mono Be.out.size))
        dsimp only
        refine hK.out _ _ (fun _ => HS10.out _ Bf.out) ?_
        clear hK K
        (try simp only [glA, glB, glC, Act.put, glD, glE, glF])
        clear hbf
        by_cases h2 : z2 = 0
        · have f2 : ((z2 : Int) == 0) = true := by rw [h2]; rfl
          have hus := HUS.out.1 ⟨h1, h2⟩
          rw [hus, Bool.not_false, if_pos rfl] at HBR
          clear hus HUS h1 h2
          refine wpAnyJ_take 28 (v := ?_) (by first | exact hF | exact wideFn) (HS10.out _ Bf.out) rfl (by kernel_rfl) (by kernel_rfl) (by kernel_rfl) (by kernel_rfl) rfl ?_ (by first | exact fun _ _ _ h => h | exact fun _ _ _ h => hQ2 _ _ _ _ _ h) ?_
          rotate_left
          · intro W hSW
            simp only [glA, glB, glC]
            (try dsimp only at hSW)
            go_simp
            with_reducible rfl
          (try simp only [glA, glB, glC, Act.put, glD, glE, glF])
          refine wpAnyJ_take 29 (v := ?_) (by first | exact hF | exact wideFn) (HS10.out _ Bf.out) rfl (by kernel_rfl) (by kernel_rfl) (by kernel_rfl) (by kernel_rfl) rfl ?_ (by first | exact fun _ _ _ h => h | exact fun _ _ _ h => hQ2 _ _ _ _ _ h) ?_
          rotate_left
          · intro W hSW
            simp only [glA, glB, glC]
            (try dsimp only at hSW)
            go_simp
            with_reducible rfl
          (try simp only [glA, glB, glC, Act.put, glD, glE, glF])
          refine wpAnyJ_take 30 (v := ?_) (by first | exact hF | exact wideFn) (HS10.out _ Bf.out) rfl (by kernel_rfl) (by kernel_rfl) (by kernel_rfl) (by kernel_rfl) rfl ?_ (by first | exact fun _ _ _ h => h | exact fun _ _ _ h => hQ2 _ _ _ _ _ h) ?_
          rotate_left
          · intro W hSW
            simp only [glA, glB, glC]
            (try dsimp only at hSW)
            go_simp
            with_reducible rfl
          (try simp only [glA, glB, glC, Act.put, glD, glE, glF])
          refine wpAnyJ_take 31 (v := ?_) (by first | exact hF | exact wideFn) (HS10.out _ Bf.out) rfl (by kernel_rfl) (by kernel_rfl) (by kernel_rfl) (by kernel_rfl) rfl ?_ (by first | exact fun _ _ _ h => h | exact fun _ _ _ h => hQ2 _ _ _ _ _ h) ?_
          rotate_left
          · intro W hSW
            simp only [glA, glB, glC]
            (try dsimp only at hSW)
            go_simp
            with_reducible rfl
          (try simp only [glA, glB, glC, Act.put, glD, glE, glF])
          refine wpAnyJ_done (by kernel_rfl) ?_
          go_wp2_with fail
          go_ret
          exact ⟨ret_int HBR.out.symm, Bg.out⟩
        · have f2 : ((z2 : Int) == 0) = false := by rw [beq_eq_false_iff_ne]; omega
          have hus : usB r D day i = true := by
            rcases hb : usB r D day i with _ | _
            · exact absurd (HUS.out.2 hb).2 h2
            · rfl
          rw [hus, Bool.not_true, if_neg (by decide)] at HBR
          clear hus HUS h1 h2
          refine wpAnyJ_take 28 (v := ?_) (by first | exact hF | exact wideFn) (HS10.out _ Bf.out) rfl (by kernel_rfl) (by kernel_rfl) (by kernel_rfl) (by kernel_rfl) rfl ?_ (by first | exact fun _ _ _ h => h | exact fun _ _ _ h => hQ2 _ _ _ _ _ h) ?_
          rotate_left
          · intro W hSW
            simp only [glA, glB, glC]
            (try dsimp only at hSW)
            go_simp
            with_reducible rfl
          (try simp only [glA, glB, glC, Act.put, glD, glE, glF])
          refine wpAnyJ_take 29 (v := ?_) (by first | exact hF | exact wideFn) (HS10.out _ Bf.out) rfl (by kernel_rfl) (by kernel_rfl) (by kernel_rfl) (by kernel_rfl) rfl ?_ (by first | exact fun _ _ _ h => h | exact fun _ _ _ h => hQ2 _ _ _ _ _ h) ?_
          rotate_left
          · intro W hSW
            simp only [glA, glB, glC]
            (try dsimp only at hSW)
            go_simp
            with_reducible rfl
          (try simp only [glA, glB, glC, Act.put, glD, glE, glF])
          refine wpAnyJ_take 30 (v := ?_) (by first | exact hF | exact wideFn) (HS10.out _ Bf.out) rfl (by kernel_rfl) (by kernel_rfl) (by kernel_rfl) (by kernel_rfl) rfl ?_ (by first | exact fun _ _ _ h => h | exact fun _ _ _ h => hQ2 _ _ _ _ _ h) ?_
          rotate_left
          · intro W hSW
            simp only [glA, glB, glC]
            (try dsimp only at hSW)
            go_simp
            with_reducible rfl
          (try simp only [glA, glB, glC, Act.put, glD, glE, glF])
          refine wpAnyJ_take 31 (v := ?_) (by first | exact hF | exact wideFn) (HS10.out _ Bf.out) rfl (by kernel_rfl) (by kernel_rfl) (by kernel_rfl) (by kernel_rfl) rfl ?_ (by first | exact fun _ _ _ h => h | exact fun _ _ _ h => hQ2 _ _ _ _ _ h) ?_
          rotate_left
          · intro W hSW
            simp only [glA, glB, glC]
            (try dsimp only at hSW)
            go_simp
            with_reducible rfl
          (try simp only [glA, glB, glC, Act.put, glD, glE, glF])
          refine wpAnyJ_done (by kernel_rfl) ?_
          go_upto_region 12 with fail
          have HS12 : Hid (∀ W, Below wc.heap.size wc W → (W.cell? ⟨G, 2, none⟩ = some (.int .i64 de) ∧ W.cell? ⟨b, 2, none⟩ = some (.int .i64 r.toil))) := hide fun W h => ⟨(blk3 (G1.out.ext h)).2.2.2.1, (bx8 (HBK.out.blk.ext h)).2.2.2.1⟩
          have Bq := hide (Bf.out.trans ((Below.refl wf.heap.size wf).drew.mono Bf.out.size))
          have Br := hide (Bg.out.trans ((Below.refl wf.heap.size wf).drew.mono Bg.out.size))
          refine wp_region_J (fun W : World => (W.cell? ⟨G, 2, none⟩ = some (.int .i64 de) ∧ W.cell? ⟨b, 2, none⟩ = some (.int .i64 r.toil))) (by kernel_rfl) ?_
          generalize wf.drew = wq at Bq Br ⊢
          by_cases h5 : r.toil ≤ de
          · rw [if_pos h5] at HBR
            have h5' : de ≥ r.toil := h5
            refine wpAnyJ_take 0 (v := ?_) (by first | exact hF | exact wideFn) (HS12.out _ Bq.out) rfl (by kernel_rfl) (by kernel_rfl) (by kernel_rfl) (by kernel_rfl) rfl ?_ (by first | exact fun _ _ _ h => h | exact fun _ _ _ h => hQ2 _ _ _ _ _ h) ?_
            rotate_left
            · intro W hSW
              simp only [glA, glB, glC]
              (try dsimp only at hSW)
              go_simp
              with_reducible rfl
            (try simp only [glA, glB, glC, Act.put, glD, glE, glF])
            refine wpAnyJ_take 1 (v := ?_) (by first | exact hF | exact wideFn) (HS12.out _ Bq.out) rfl (by kernel_rfl) (by kernel_rfl) (by kernel_rfl) (by kernel_rfl) rfl ?_ (by first | exact fun _ _ _ h => h | exact fun _ _ _ h => hQ2 _ _ _ _ _ h) ?_
            rotate_left
            · intro W hSW
              simp only [glA, glB, glC]
              (try dsimp only at hSW)
              go_simp
              with_reducible rfl
            (try simp only [glA, glB, glC, Act.put, glD, glE, glF])
            refine wpAnyJ_take 2 (v := ?_) (by first | exact hF | exact wideFn) (HS12.out _ Bq.out) rfl (by kernel_rfl) (by kernel_rfl) (by kernel_rfl) (by kernel_rfl) rfl ?_ (by first | exact fun _ _ _ h => h | exact fun _ _ _ h => hQ2 _ _ _ _ _ h) ?_
            rotate_left
            · intro W hSW
              simp only [glA, glB, glC]
              (try dsimp only at hSW)
              go_simp
              with_reducible rfl
            (try simp only [glA, glB, glC, Act.put, glD, glE, glF])
            refine wpAnyJ_take 3 (v := ?_) (by first | exact hF | exact wideFn) (HS12.out _ Bq.out) rfl (by kernel_rfl) (by kernel_rfl) (by kernel_rfl) (by kernel_rfl) rfl ?_ (by first | exact fun _ _ _ h => h | exact fun _ _ _ h => hQ2 _ _ _ _ _ h) ?_
            rotate_left
            · intro W hSW
              simp only [glA, glB, glC]
              (try dsimp only at hSW)
              go_simp
              with_reducible rfl
            (try simp only [glA, glB, glC, Act.put, glD, glE, glF])
            refine wpAnyJ_take 4 (v := ?_) (by first | exact hF | exact wideFn) (HS12.out _ Bq.out) rfl (by kernel_rfl) (by kernel_rfl) (by kernel_rfl) (by kernel_rfl) rfl ?_ (by first | exact fun _ _ _ h => h | exact fun _ _ _ h => hQ2 _ _ _ _ _ h) ?_
            rotate_left
            · intro W hSW
              simp only [glA, glB, glC]
              (try dsimp only at hSW)
              go_simp
              with_reducible rfl
            (try simp only [glA, glB, glC, Act.put, glD, glE, glF])
            refine wpAnyJ_take 5 (v := ?_) (by first | exact hF | exact wideFn) (HS12.out _ Bq.out) rfl (by kernel_rfl) (by kernel_rfl) (by kernel_rfl) (by kernel_rfl) rfl ?_ (by first | exact fun _ _ _ h => h | exact fun _ _ _ h => hQ2 _ _ _ _ _ h) ?_
            rotate_left
            · intro W hSW
              simp only [glA, glB, glC]
              (try dsimp only at hSW)
              go_simp
              with_reducible rfl
            (try simp only [glA, glB, glC, Act.put, glD, glE, glF])
            refine wpAnyJ_take 6 (v := ?_) (by first | exact hF | exact wideFn) (HS12.out _ Bq.out) rfl (by kernel_rfl) (by kernel_rfl) (by kernel_rfl) (by kernel_rfl) rfl ?_ (by first | exact fun _ _ _ h => h | exact fun _ _ _ h => hQ2 _ _ _ _ _ h) ?_
            rotate_left
            · intro W hSW
              simp only [glA, glB, glC]
              (try dsimp only at hSW)
              go_simp
              with_reducible rfl
            (try simp only [glA, glB, glC, Act.put, glD, glE, glF])
            refine wpAnyJ_take 7 (v := ?_) (by first | exact hF | exact wideFn) (HS12.out _ Bq.out) rfl (by kernel_rfl) (by kernel_rfl) (by kernel_rfl) (by kernel_rfl) rfl ?_ (by first | exact fun _ _ _ h => h | exact fun _ _ _ h => hQ2 _ _ _ _ _ h) ?_
            rotate_left
            · intro W hSW
              simp only [glA, glB, glC]
              (try dsimp only at hSW)
              go_simp
              with_reducible rfl
            (try simp only [glA, glB, glC, Act.put, glD, glE, glF])
            refine wpAnyJ_take 8 (v := ?_) (by first | exact hF | exact wideFn) (HS12.out _ Bq.out) rfl (by kernel_rfl) (by kernel_rfl) (by kernel_rfl) (by kernel_rfl) rfl ?_ (by first | exact fun _ _ _ h => h | exact fun _ _ _ h => hQ2 _ _ _ _ _ h) ?_
            rotate_left
            · intro W hSW
              simp only [glA, glB, glC]
              (try dsimp only at hSW)
              go_simp
              with_reducible rfl
            (try simp only [glA, glB, glC, Act.put, glD, glE, glF])
            refine wpAnyJ_done (by kernel_rfl) ?_
            go_wp2_with fail
            go_ret
            exact ⟨ret_int HBR.out.symm, Br.out⟩
          · rw [if_neg h5] at HBR
            have h5' : ¬ de ≥ r.toil := h5
            refine wpAnyJ_take 0 (v := ?_) (by first | exact hF | exact wideFn) (HS12.out _ Bq.out) rfl (by kernel_rfl) (by kernel_rfl) (by kernel_rfl) (by kernel_rfl) rfl ?_ (by first | exact fun _ _ _ h => h | exact fun _ _ _ h => hQ2 _ _ _ _ _ h) ?_
            rotate_left
            · intro W hSW
              simp only [glA, glB, glC]
              (try dsimp only at hSW)
              go_simp
              with_reducible rfl
            (try simp only [glA, glB, glC, Act.put, glD, glE, glF])
            refine wpAnyJ_take 1 (v := ?_) (by first | exact hF | exact wideFn) (HS12.out _ Bq.out) rfl (by kernel_rfl) (by kernel_rfl) (by kernel_rfl) (by kernel_rfl) rfl ?_ (by first | exact fun _ _ _ h => h | exact fun _ _ _ h => hQ2 _ _ _ _ _ h) ?_
            rotate_left
            · intro W hSW
              simp only [glA, glB, glC]
              (try dsimp only at hSW)
              go_simp
              with_reducible rfl
            (try simp only [glA, glB, glC, Act.put, glD, glE, glF])
            refine wpAnyJ_take 2 (v := ?_) (by first | exact hF | exact wideFn) (HS12.out _ Bq.out) rfl (by kernel_rfl) (by kernel_rfl) (by kernel_rfl) (by kernel_rfl) rfl ?_ (by first | exact fun _ _ _ h => h | exact fun _ _ _ h => hQ2 _ _ _ _ _ h) ?_
            rotate_left
            · intro W hSW
              simp only [glA, glB, glC]
              (try dsimp only at hSW)
              go_simp
              with_reducible rfl
            (try simp only [glA, glB, glC, Act.put, glD, glE, glF])
            refine wpAnyJ_take 3 (v := ?_) (by first | exact hF | exact wideFn) (HS12.out _ Bq.out) rfl (by kernel_rfl) (by kernel_rfl) (by kernel_rfl) (by kernel_rfl) rfl ?_ (by first | exact fun _ _ _ h => h | exact fun _ _ _ h => hQ2 _ _ _ _ _ h) ?_
            rotate_left
            · intro W hSW
              simp only [glA, glB, glC]
              (try dsimp only at hSW)
              go_simp
              with_reducible rfl
            (try simp only [glA, glB, glC, Act.put, glD, glE, glF])
            refine wpAnyJ_take 4 (v := ?_) (by first | exact hF | exact wideFn) (HS12.out _ Bq.out) rfl (by kernel_rfl) (by kernel_rfl) (by kernel_rfl) (by kernel_rfl) rfl ?_ (by first | exact fun _ _ _ h => h | exact fun _ _ _ h => hQ2 _ _ _ _ _ h) ?_
            rotate_left
            · intro W hSW
              simp only [glA, glB, glC]
              (try dsimp only at hSW)
              go_simp
              with_reducible rfl
            (try simp only [glA, glB, glC, Act.put, glD, glE, glF])
            refine wpAnyJ_take 5 (v := ?_) (by first | exact hF | exact wideFn) (HS12.out _ Bq.out) rfl (by kernel_rfl) (by kernel_rfl) (by kernel_rfl) (by kernel_rfl) rfl ?_ (by first | exact fun _ _ _ h => h | exact fun _ _ _ h => hQ2 _ _ _ _ _ h) ?_
            rotate_left
            · intro W hSW
              simp only [glA, glB, glC]
              (try dsimp only at hSW)
              go_simp
              with_reducible rfl
            (try simp only [glA, glB, glC, Act.put, glD, glE, glF])
            refine wpAnyJ_take 6 (v := ?_) (by first | exact hF | exact wideFn) (HS12.out _ Bq.out) rfl (by kernel_rfl) (by kernel_rfl) (by kernel_rfl) (by kernel_rfl) rfl ?_ (by first | exact fun _ _ _ h => h | exact fun _ _ _ h => hQ2 _ _ _ _ _ h) ?_
            rotate_left
            · intro W hSW
              simp only [glA, glB, glC]
              (try dsimp only at hSW)
              go_simp
              with_reducible rfl
            (try simp only [glA, glB, glC, Act.put, glD, glE, glF])
            refine wpAnyJ_take 7 (v := ?_) (by first | exact hF | exact wideFn) (HS12.out _ Bq.out) rfl (by kernel_rfl) (by kernel_rfl) (by kernel_rfl) (by kernel_rfl) rfl ?_ (by first | exact fun _ _ _ h => h | exact fun _ _ _ h => hQ2 _ _ _ _ _ h) ?_
            rotate_left
            · intro W hSW
              simp only [glA, glB, glC]
              (try dsimp only at hSW)
              go_simp
              with_reducible rfl
            (try simp only [glA, glB, glC, Act.put, glD, glE, glF])
            refine wpAnyJ_take 8 (v := ?_) (by first | exact hF | exact wideFn) (HS12.out _ Bq.out) rfl (by kernel_rfl) (by kernel_rfl) (by kernel_rfl) (by kernel_rfl) rfl ?_ (by first | exact fun _ _ _ h => h | exact fun _ _ _ h => hQ2 _ _ _ _ _ h) ?_
            rotate_left
            · intro W hSW
              simp only [glA, glB, glC]
              (try dsimp only at hSW)
              go_simp
              with_reducible rfl
            (try simp only [glA, glB, glC, Act.put, glD, glE, glF])
            refine wpAnyJ_done (by kernel_rfl) ?_
            go_wp2_with fail
            go_ret
            exact ⟨ret_int HBR.out.symm, Br.out⟩
      · have f1 : ((z1 : Int) == 0) = false := by rw [beq_eq_false_iff_ne]; omega
        have hus : usB r D day i = true := by
          rcases hb : usB r D day i with _ | _
          · exact absurd (HUS.out.2 hb).1 h1
          · rfl
        rw [hus, Bool.not_true, if_neg (by decide)] at HBR
        clear hus HUS h1
        refine wpAnyJ_take 0 (v := ?_) (by first | exact hF | exact wideFn) (HS10.out _ Bd.out) rfl (by kernel_rfl) (by kernel_rfl) (by kernel_rfl) (by kernel_rfl) rfl ?_ (by first | exact fun _ _ _ h => h | exact fun _ _ _ h => hQ2 _ _ _ _ _ h) ?_
        rotate_left
        · intro W hSW
          simp only [glA, glB, glC]
          (try dsimp only at hSW)
          go_simp
          with_reducible rfl
        (try simp only [glA, glB, glC, Act.put, glD, glE, glF])
        refine wpAnyJ_take 1 (v := ?_) (by first | exact hF | exact wideFn) (HS10.out _ Bd.out) rfl (by kernel_rfl) (by kernel_rfl) (by kernel_rfl) (by kernel_rfl) rfl ?_ (by first | exact fun _ _ _ h => h | exact fun _ _ _ h => hQ2 _ _ _ _ _ h) ?_
        rotate_left
        · intro W hSW
          simp only [glA, glB, glC]
          (try dsimp only at hSW)
          go_simp
          with_reducible rfl
        (try simp only [glA, glB, glC, Act.put, glD, glE, glF])
        refine wpAnyJ_take 2 (v := ?_) (by first | exact hF | exact wideFn) (HS10.out _ Bd.out) rfl (by kernel_rfl) (by kernel_rfl) (by kernel_rfl) (by kernel_rfl) rfl ?_ (by first | exact fun _ _ _ h => h | exact fun _ _ _ h => hQ2 _ _ _ _ _ h) ?_
        rotate_left
        · intro W hSW
          simp only [glA, glB, glC]
          (try dsimp only at hSW)
          go_simp
          with_reducible rfl
        (try simp only [glA, glB, glC, Act.put, glD, glE, glF])
        refine wpAnyJ_take 3 (v := ?_) (by first | exact hF | exact wideFn) (HS10.out _ Bd.out) rfl (by kernel_rfl) (by kernel_rfl) (by kernel_rfl) (by kernel_rfl) rfl ?_ (by first | exact fun _ _ _ h => h | exact fun _ _ _ h => hQ2 _ _ _ _ _ h) ?_
        rotate_left
        · intro W hSW
          simp only [glA, glB, glC]
          (try dsimp only at hSW)
          go_simp
          with_reducible rfl
        (try simp only [glA, glB, glC, Act.put, glD, glE, glF])
        refine wpAnyJ_take 4 (v := ?_) (by first | exact hF | exact wideFn) (HS10.out _ Bd.out) rfl (by kernel_rfl) (by kernel_rfl) (by kernel_rfl) (by kernel_rfl) rfl ?_ (by first | exact fun _ _ _ h => h | exact fun _ _ _ h => hQ2 _ _ _ _ _ h) ?_
        rotate_left
        · intro W hSW
          simp only [glA, glB, glC]
          (try dsimp only at hSW)
          go_simp
          with_reducible rfl
        (try simp only [glA, glB, glC, Act.put, glD, glE, glF])
        refine wpAnyJ_take 5 (v := ?_) (by first | exact hF | exact wideFn) (HS10.out _ Bd.out) rfl (by kernel_rfl) (by kernel_rfl) (by kernel_rfl) (by kernel_rfl) rfl ?_ (by first | exact fun _ _ _ h => h | exact fun _ _ _ h => hQ2 _ _ _ _ _ h) ?_
        rotate_left
        · intro W hSW
          simp only [glA, glB, glC]
          (try dsimp only at hSW)
          go_simp
          with_reducible rfl
        (try simp only [glA, glB, glC, Act.put, glD, glE, glF])
        refine wpAnyJ_take 6 (v := ?_) (by first | exact hF | exact wideFn) (HS10.out _ Bd.out) rfl (by kernel_rfl) (by kernel_rfl) (by kernel_rfl) (by kernel_rfl) rfl ?_ (by first | exact fun _ _ _ h => h | exact fun _ _ _ h => hQ2 _ _ _ _ _ h) ?_
        rotate_left
        · intro W hSW
          simp only [glA, glB, glC]
          (try dsimp only at hSW)
          go_simp
          with_reducible rfl
        (try simp only [glA, glB, glC, Act.put, glD, glE, glF])
        refine wpAnyJ_take 7 (v := ?_) (by first | exact hF | exact wideFn) (HS10.out _ Bd.out) rfl (by kernel_rfl) (by kernel_rfl) (by kernel_rfl) (by kernel_rfl) rfl ?_ (by first | exact fun _ _ _ h => h | exact fun _ _ _ h => hQ2 _ _ _ _ _ h) ?_
        rotate_left
        · intro W hSW
          simp only [glA, glB, glC]
          (try dsimp only at hSW)
          go_simp
          with_reducible rfl
        (try simp only [glA, glB, glC, Act.put, glD, glE, glF])
        refine wpAnyJ_take 8 (v := ?_) (by first | exact hF | exact wideFn) (HS10.out _ Bd.out) rfl (by kernel_rfl) (by kernel_rfl) (by kernel_rfl) (by kernel_rfl) rfl ?_ (by first | exact fun _ _ _ h => h | exact fun _ _ _ h => hQ2 _ _ _ _ _ h) ?_
        rotate_left
        · intro W hSW
          simp only [glA, glB, glC]
          (try dsimp only at hSW)
          go_simp
          with_reducible rfl
        (try simp only [glA, glB, glC, Act.put, glD, glE, glF])
        refine wpAnyJ_take 9 (v := ?_) (by first | exact hF | exact wideFn) (HS10.out _ Bd.out) rfl (by kernel_rfl) (by kernel_rfl) (by kernel_rfl) (by kernel_rfl) rfl ?_ (by first | exact fun _ _ _ h => h | exact fun _ _ _ h => hQ2 _ _ _ _ _ h) ?_
        rotate_left
        · intro W hSW
          simp only [glA, glB, glC]
          (try dsimp only at hSW)
          go_simp
          with_reducible rfl
        (try simp only [glA, glB, glC, Act.put, glD, glE, glF])
        refine wpAnyJ_take 10 (v := ?_) (by first | exact hF | exact wideFn) (HS10.out _ Bd.out) rfl (by kernel_rfl) (by kernel_rfl) (by kernel_rfl) (by kernel_rfl) rfl ?_ (by first | exact fun _ _ _ h => h | exact fun _ _ _ h => hQ2 _ _ _ _ _ h) ?_
        rotate_left
        · intro W hSW
          simp only [glA, glB, glC]
          (try dsimp only at hSW)
          go_simp
          with_reducible rfl
        (try simp only [glA, glB, glC, Act.put, glD, glE, glF])
        refine wpAnyJ_take 11 (v := ?_) (by first | exact hF | exact wideFn) (HS10.out _ Bd.out) rfl (by kernel_rfl) (by kernel_rfl) (by kernel_rfl) (by kernel_rfl) rfl ?_ (by first | exact fun _ _ _ h => h | exact fun _ _ _ h => hQ2 _ _ _ _ _ h) ?_
        rotate_left
        · intro W hSW
          simp only [glA, glB, glC]
          (try dsimp only at hSW)
          go_simp
          with_reducible rfl
        (try simp only [glA, glB, glC, Act.put, glD, glE, glF])
        refine wpAnyJ_take 12 (v := ?_) (by first | exact hF | exact wideFn) (HS10.out _ Bd.out) rfl (by kernel_rfl) (by kernel_rfl) (by kernel_rfl) (by kernel_rfl) rfl ?_ (by first | exact fun _ _ _ h => h | exact fun _ _ _ h => hQ2 _ _ _ _ _ h) ?_
        rotate_left
        · intro W hSW
          simp only [glA, glB, glC]
          (try dsimp only at hSW)
          go_simp
          with_reducible rfl
        (try simp only [glA, glB, glC, Act.put, glD, glE, glF])
        refine wpAnyJ_take 13 (v := ?_) (by first | exact hF | exact wideFn) (HS10.out _ Bd.out) rfl (by kernel_rfl) (by kernel_rfl) (by kernel_rfl) (by kernel_rfl) rfl ?_ (by first | exact fun _ _ _ h => h | exact fun _ _ _ h => hQ2 _ _ _ _ _ h) ?_
        rotate_left
        · intro W hSW
          simp only [glA, glB, glC]
          (try dsimp only at hSW)
          go_simp
          with_reducible rfl
        (try simp only [glA, glB, glC, Act.put, glD, glE, glF])
        refine wpAnyJ_take 14 (v := ?_) (by first | exact hF | exact wideFn) (HS10.out _ Bd.out) rfl (by kernel_rfl) (by kernel_rfl) (by kernel_rfl) (by kernel_rfl) rfl ?_ (by first | exact fun _ _ _ h => h | exact fun _ _ _ h => hQ2 _ _ _ _ _ h) ?_
        rotate_left
        · intro W hSW
          simp only [glA, glB, glC]
          (try dsimp only at hSW)
          go_simp
          with_reducible rfl
        (try simp only [glA, glB, glC, Act.put, glD, glE, glF])
        refine wpAnyJ_skip 15 (by first | exact hF | exact wideFn) (HS10.out _ Bd.out) rfl (by kernel_rfl) (by kernel_rfl) (by kernel_rfl) (by kernel_rfl) rfl (by first | exact fun _ _ _ h => h | exact fun _ _ _ h => hQ2 _ _ _ _ _ h) ?_
        (try simp only [glA, glB, glC, Act.put, glD, glE, glF])
        refine wpAnyJ_skip 16 (by first | exact hF | exact wideFn) (HS10.out _ Bd.out) rfl (by kernel_rfl) (by kernel_rfl) (by kernel_rfl) (by kernel_rfl) rfl (by first | exact fun _ _ _ h => h | exact fun _ _ _ h => hQ2 _ _ _ _ _ h) ?_
        (try simp only [glA, glB, glC, Act.put, glD, glE, glF])
        refine wpAnyJ_skip 17 (by first | exact hF | exact wideFn) (HS10.out _ Bd.out) rfl (by kernel_rfl) (by kernel_rfl) (by kernel_rfl) (by kernel_rfl) rfl (by first | exact fun _ _ _ h => h | exact fun _ _ _ h => hQ2 _ _ _ _ _ h) ?_
        (try simp only [glA, glB, glC, Act.put, glD, glE, glF])
        refine wpAnyJ_skip 18 (by first | exact hF | exact wideFn) (HS10.out _ Bd.out) rfl (by kernel_rfl) (by kernel_rfl) (by kernel_rfl) (by kernel_rfl) rfl (by first | exact fun _ _ _ h => h | exact fun _ _ _ h => hQ2 _ _ _ _ _ h) ?_
        (try simp only [glA, glB, glC, Act.put, glD, glE, glF])
        refine wpAnyJ_skip 19 (by first | exact hF | exact wideFn) (HS10.out _ Bd.out) rfl (by kernel_rfl) (by kernel_rfl) (by kernel_rfl) (by kernel_rfl) rfl (by first | exact fun _ _ _ h => h | exact fun _ _ _ h => hQ2 _ _ _ _ _ h) ?_
        (try simp only [glA, glB, glC, Act.put, glD, glE, glF])
        refine wpAnyJ_skip 20 (by first | exact hF | exact wideFn) (HS10.out _ Bd.out) rfl (by kernel_rfl) (by kernel_rfl) (by kernel_rfl) (by kernel_rfl) rfl (by first | exact fun _ _ _ h => h | exact fun _ _ _ h => hQ2 _ _ _ _ _ h) ?_
        (try simp only [glA, glB, glC, Act.put, glD, glE, glF])
        refine wpAnyJ_skip 21 (by first | exact hF | exact wideFn) (HS10.out _ Bd.out) rfl (by kernel_rfl) (by kernel_rfl) (by kernel_rfl) (by kernel_rfl) rfl (by first | exact fun _ _ _ h => h | exact fun _ _ _ h => hQ2 _ _ _ _ _ h) ?_
        (try simp only [glA, glB, glC, Act.put, glD, glE, glF])
        refine wpAnyJ_skip 22 (by first | exact hF | exact wideFn) (HS10.out _ Bd.out) rfl (by kernel_rfl) (by kernel_rfl) (by kernel_rfl) (by kernel_rfl) rfl (by first | exact fun _ _ _ h => h | exact fun _ _ _ h => hQ2 _ _ _ _ _ h) ?_
        (try simp only [glA, glB, glC, Act.put, glD, glE, glF])
        refine wpAnyJ_skip 23 (by first | exact hF | exact wideFn) (HS10.out _ Bd.out) rfl (by kernel_rfl) (by kernel_rfl) (by kernel_rfl) (by kernel_rfl) rfl (by first | exact fun _ _ _ h => h | exact fun _ _ _ h => hQ2 _ _ _ _ _ h) ?_
        (try simp only [glA, glB, glC, Act.put, glD, glE, glF])
        refine wpAnyJ_skip 24 (by first | exact hF | exact wideFn) (HS10.out _ Bd.out) rfl (by kernel_rfl) (by kernel_rfl) (by kernel_rfl) (by kernel_rfl) rfl (by first | exact fun _ _ _ h => h | exact fun _ _ _ h => hQ2 _ _ _ _ _ h) ?_
        (try simp only [glA, glB, glC, Act.put, glD, glE, glF])
        refine wpAnyJ_skip 25 (by first | exact hF | exact wideFn) (HS10.out _ Bd.out) rfl (by kernel_rfl) (by kernel_rfl) (by kernel_rfl) (by kernel_rfl) rfl (by first | exact fun _ _ _ h => h | exact fun _ _ _ h => hQ2 _ _ _ _ _ h) ?_
        (try simp only [glA, glB, glC, Act.put, glD, glE, glF])
        refine wpAnyJ_skip 26 (by first | exact hF | exact wideFn) (HS10.out _ Bd.out) rfl (by kernel_rfl) (by kernel_rfl) (by kernel_rfl) (by kernel_rfl) rfl (by first | exact fun _ _ _ h => h | exact fun _ _ _ h => hQ2 _ _ _ _ _ h) ?_
        (try simp only [glA, glB, glC, Act.put, glD, glE, glF])
        refine wpAnyJ_skip 27 (by first | exact hF | exact wideFn) (HS10.out _ Bd.out) rfl (by kernel_rfl) (by kernel_rfl) (by kernel_rfl) (by kernel_rfl) rfl (by first | exact fun _ _ _ h => h | exact fun _ _ _ h => hQ2 _ _ _ _ _ h) ?_
        (try simp only [glA, glB, glC, Act.put, glD, glE, glF])
        refine wpAnyJ_skip 28 (by first | exact hF | exact wideFn) (HS10.out _ Bd.out) rfl (by kernel_rfl) (by kernel_rfl) (by kernel_rfl) (by kernel_rfl) rfl (by first | exact fun _ _ _ h => h | exact fun _ _ _ h => hQ2 _ _ _ _ _ h) ?_
        (try simp only [glA, glB, glC, Act.put, glD, glE, glF])
        refine wpAnyJ_skip 29 (by first | exact hF | exact wideFn) (HS10.out _ Bd.out) rfl (by kernel_rfl) (by kernel_rfl) (by kernel_rfl) (by kernel_rfl) rfl (by first | exact fun _ _ _ h => h | exact fun _ _ _ h => hQ2 _ _ _ _ _ h) ?_
        (try simp only [glA, glB, glC, Act.put, glD, glE, glF])
        refine wpAnyJ_take 30 (v := ?_) (by first | exact hF | exact wideFn) (HS10.out _ Bd.out) rfl (by kernel_rfl) (by kernel_rfl) (by kernel_rfl) (by kernel_rfl) rfl ?_ (by first | exact fun _ _ _ h => h | exact fun _ _ _ h => hQ2 _ _ _ _ _ h) ?_
        rotate_left
        · intro W hSW
          simp only [glA, glB, glC]
          (try dsimp only at hSW)
          go_simp
          with_reducible rfl
        (try simp only [glA, glB, glC, Act.put, glD, glE, glF])
        refine wpAnyJ_take 31 (v := ?_) (by first | exact hF | exact wideFn) (HS10.out _ Bd.out) rfl (by kernel_rfl) (by kernel_rfl) (by kernel_rfl) (by kernel_rfl) rfl ?_ (by first | exact fun _ _ _ h => h | exact fun _ _ _ h => hQ2 _ _ _ _ _ h) ?_
        rotate_left
        · intro W hSW
          simp only [glA, glB, glC]
          (try dsimp only at hSW)
          go_simp
          with_reducible rfl
        (try simp only [glA, glB, glC, Act.put, glD, glE, glF])
        refine wpAnyJ_done (by kernel_rfl) ?_
        go_upto_region 12 with fail
        have HS12 : Hid (∀ W, Below wc.heap.size wc W → (W.cell? ⟨G, 2, none⟩ = some (.int .i64 de) ∧ W.cell? ⟨b, 2, none⟩ = some (.int .i64 r.toil))) := hide fun W h => ⟨(blk3 (G1.out.ext h)).2.2.2.1, (bx8 (HBK.out.blk.ext h)).2.2.2.1⟩
        have Bq := hide (Bd.out.trans ((Below.refl wd.heap.size wd).drew.mono Bd.out.size))
        have Br := hide (Be.out.trans ((Below.refl wd.heap.size wd).drew.mono Be.out.size))
        refine wp_region_J (fun W : World => (W.cell? ⟨G, 2, none⟩ = some (.int .i64 de) ∧ W.cell? ⟨b, 2, none⟩ = some (.int .i64 r.toil))) (by kernel_rfl) ?_
        generalize wd.drew = wq at Bq Br ⊢
        by_cases h5 : r.toil ≤ de
        · rw [if_pos h5] at HBR
          have h5' : de ≥ r.toil := h5
          refine wpAnyJ_take 0 (v := ?_) (by first | exact hF | exact wideFn) (HS12.out _ Bq.out) rfl (by kernel_rfl) (by kernel_rfl) (by kernel_rfl) (by kernel_rfl) rfl ?_ (by first | exact fun _ _ _ h => h | exact fun _ _ _ h => hQ2 _ _ _ _ _ h) ?_
          rotate_left
          · intro W hSW
            simp only [glA, glB, glC]
            (try dsimp only at hSW)
            go_simp
            with_reducible rfl
          (try simp only [glA, glB, glC, Act.put, glD, glE, glF])
          refine wpAnyJ_take 1 (v := ?_) (by first | exact hF | exact wideFn) (HS12.out _ Bq.out) rfl (by kernel_rfl) (by kernel_rfl) (by kernel_rfl) (by kernel_rfl) rfl ?_ (by first | exact fun _ _ _ h => h | exact fun _ _ _ h => hQ2 _ _ _ _ _ h) ?_
          rotate_left
          · intro W hSW
            simp only [glA, glB, glC]
            (try dsimp only at hSW)
            go_simp
            with_reducible rfl
          (try simp only [glA, glB, glC, Act.put, glD, glE, glF])
          refine wpAnyJ_take 2 (v := ?_) (by first | exact hF | exact wideFn) (HS12.out _ Bq.out) rfl (by kernel_rfl) (by kernel_rfl) (by kernel_rfl) (by kernel_rfl) rfl ?_ (by first | exact fun _ _ _ h => h | exact fun _ _ _ h => hQ2 _ _ _ _ _ h) ?_
          rotate_left
          · intro W hSW
            simp only [glA, glB, glC]
            (try dsimp only at hSW)
            go_simp
            with_reducible rfl
          (try simp only [glA, glB, glC, Act.put, glD, glE, glF])
          refine wpAnyJ_take 3 (v := ?_) (by first | exact hF | exact wideFn) (HS12.out _ Bq.out) rfl (by kernel_rfl) (by kernel_rfl) (by kernel_rfl) (by kernel_rfl) rfl ?_ (by first | exact fun _ _ _ h => h | exact fun _ _ _ h => hQ2 _ _ _ _ _ h) ?_
          rotate_left
          · intro W hSW
            simp only [glA, glB, glC]
            (try dsimp only at hSW)
            go_simp
            with_reducible rfl
          (try simp only [glA, glB, glC, Act.put, glD, glE, glF])
          refine wpAnyJ_take 4 (v := ?_) (by first | exact hF | exact wideFn) (HS12.out _ Bq.out) rfl (by kernel_rfl) (by kernel_rfl) (by kernel_rfl) (by kernel_rfl) rfl ?_ (by first | exact fun _ _ _ h => h | exact fun _ _ _ h => hQ2 _ _ _ _ _ h) ?_
          rotate_left
          · intro W hSW
            simp only [glA, glB, glC]
            (try dsimp only at hSW)
            go_simp
            with_reducible rfl
          (try simp only [glA, glB, glC, Act.put, glD, glE, glF])
          refine wpAnyJ_take 5 (v := ?_) (by first | exact hF | exact wideFn) (HS12.out _ Bq.out) rfl (by kernel_rfl) (by kernel_rfl) (by kernel_rfl) (by kernel_rfl) rfl ?_ (by first | exact fun _ _ _ h => h | exact fun _ _ _ h => hQ2 _ _ _ _ _ h) ?_
          rotate_left
          · intro W hSW
            simp only [glA, glB, glC]
            (try dsimp only at hSW)
            go_simp
            with_reducible rfl
          (try simp only [glA, glB, glC, Act.put, glD, glE, glF])
          refine wpAnyJ_take 6 (v := ?_) (by first | exact hF | exact wideFn) (HS12.out _ Bq.out) rfl (by kernel_rfl) (by kernel_rfl) (by kernel_rfl) (by kernel_rfl) rfl ?_ (by first | exact fun _ _ _ h => h | exact fun _ _ _ h => hQ2 _ _ _ _ _ h) ?_
          rotate_left
          · intro W hSW
            simp only [glA, glB, glC]
            (try dsimp only at hSW)
            go_simp
            with_reducible rfl
          (try simp only [glA, glB, glC, Act.put, glD, glE, glF])
          refine wpAnyJ_take 7 (v := ?_) (by first | exact hF | exact wideFn) (HS12.out _ Bq.out) rfl (by kernel_rfl) (by kernel_rfl) (by kernel_rfl) (by kernel_rfl) rfl ?_ (by first | exact fun _ _ _ h => h | exact fun _ _ _ h => hQ2 _ _ _ _ _ h) ?_
          rotate_left
          · intro W hSW
            simp only [glA, glB, glC]
            (try dsimp only at hSW)
            go_simp
            with_reducible rfl
          (try simp only [glA, glB, glC, Act.put, glD, glE, glF])
          refine wpAnyJ_take 8 (v := ?_) (by first | exact hF | exact wideFn) (HS12.out _ Bq.out) rfl (by kernel_rfl) (by kernel_rfl) (by kernel_rfl) (by kernel_rfl) rfl ?_ (by first | exact fun _ _ _ h => h | exact fun _ _ _ h => hQ2 _ _ _ _ _ h) ?_
          rotate_left
          · intro W hSW
            simp only [glA, glB, glC]
            (try dsimp only at hSW)
            go_simp
            with_reducible rfl
          (try simp only [glA, glB, glC, Act.put, glD, glE, glF])
          refine wpAnyJ_done (by kernel_rfl) ?_
          go_wp2_with fail
          go_ret
          exact ⟨ret_int HBR.out.symm, Br.out⟩
        · rw [if_neg h5] at HBR
          have h5' : ¬ de ≥ r.toil := h5
          refine wpAnyJ_take 0 (v := ?_) (by first | exact hF | exact wideFn) (HS12.out _ Bq.out) rfl (by kernel_rfl) (by kernel_rfl) (by kernel_rfl) (by kernel_rfl) rfl ?_ (by first | exact fun _ _ _ h => h | exact fun _ _ _ h => hQ2 _ _ _ _ _ h) ?_
          rotate_left
          · intro W hSW
            simp only [glA, glB, glC]
            (try dsimp only at hSW)
            go_simp
            with_reducible rfl
          (try simp only [glA, glB, glC, Act.put, glD, glE, glF])
          refine wpAnyJ_take 1 (v := ?_) (by first | exact hF | exact wideFn) (HS12.out _ Bq.out) rfl (by kernel_rfl) (by kernel_rfl) (by kernel_rfl) (by kernel_rfl) rfl ?_ (by first | exact fun _ _ _ h => h | exact fun _ _ _ h => hQ2 _ _ _ _ _ h) ?_
          rotate_left
          · intro W hSW
            simp only [glA, glB, glC]
            (try dsimp only at hSW)
            go_simp
            with_reducible rfl
          (try simp only [glA, glB, glC, Act.put, glD, glE, glF])
          refine wpAnyJ_take 2 (v := ?_) (by first | exact hF | exact wideFn) (HS12.out _ Bq.out) rfl (by kernel_rfl) (by kernel_rfl) (by kernel_rfl) (by kernel_rfl) rfl ?_ (by first | exact fun _ _ _ h => h | exact fun _ _ _ h => hQ2 _ _ _ _ _ h) ?_
          rotate_left
          · intro W hSW
            simp only [glA, glB, glC]
            (try dsimp only at hSW)
            go_simp
            with_reducible rfl
          (try simp only [glA, glB, glC, Act.put, glD, glE, glF])
          refine wpAnyJ_take 3 (v := ?_) (by first | exact hF | exact wideFn) (HS12.out _ Bq.out) rfl (by kernel_rfl) (by kernel_rfl) (by kernel_rfl) (by kernel_rfl) rfl ?_ (by first | exact fun _ _ _ h => h | exact fun _ _ _ h => hQ2 _ _ _ _ _ h) ?_
          rotate_left
          · intro W hSW
            simp only [glA, glB, glC]
            (try dsimp only at hSW)
            go_simp
            with_reducible rfl
          (try simp only [glA, glB, glC, Act.put, glD, glE, glF])
          refine wpAnyJ_take 4 (v := ?_) (by first | exact hF | exact wideFn) (HS12.out _ Bq.out) rfl (by kernel_rfl) (by kernel_rfl) (by kernel_rfl) (by kernel_rfl) rfl ?_ (by first | exact fun _ _ _ h => h | exact fun _ _ _ h => hQ2 _ _ _ _ _ h) ?_
          rotate_left
          · intro W hSW
            simp only [glA, glB, glC]
            (try dsimp only at hSW)
            go_simp
            with_reducible rfl
          (try simp only [glA, glB, glC, Act.put, glD, glE, glF])
          refine wpAnyJ_take 5 (v := ?_) (by first | exact hF | exact wideFn) (HS12.out _ Bq.out) rfl (by kernel_rfl) (by kernel_rfl) (by kernel_rfl) (by kernel_rfl) rfl ?_ (by first | exact fun _ _ _ h => h | exact fun _ _ _ h => hQ2 _ _ _ _ _ h) ?_
          rotate_left
          · intro W hSW
            simp only [glA, glB, glC]
            (try dsimp only at hSW)
            go_simp
            with_reducible rfl
          (try simp only [glA, glB, glC, Act.put, glD, glE, glF])
          refine wpAnyJ_take 6 (v := ?_) (by first | exact hF | exact wideFn) (HS12.out _ Bq.out) rfl (by kernel_rfl) (by kernel_rfl) (by kernel_rfl) (by kernel_rfl) rfl ?_ (by first | exact fun _ _ _ h => h | exact fun _ _ _ h => hQ2 _ _ _ _ _ h) ?_
          rotate_left
          · intro W hSW
            simp only [glA, glB, glC]
            (try dsimp only at hSW)
            go_simp
            with_reducible rfl
          (try simp only [glA, glB, glC, Act.put, glD, glE, glF])
          refine wpAnyJ_take 7 (v := ?_) (by first | exact hF | exact wideFn) (HS12.out _ Bq.out) rfl (by kernel_rfl) (by kernel_rfl) (by kernel_rfl) (by kernel_rfl) rfl ?_ (by first | exact fun _ _ _ h => h | exact fun _ _ _ h => hQ2 _ _ _ _ _ h) ?_
          rotate_left
          · intro W hSW
            simp only [glA, glB, glC]
            (try dsimp only at hSW)
            go_simp
            with_reducible rfl
          (try simp only [glA, glB, glC, Act.put, glD, glE, glF])
          refine wpAnyJ_take 8 (v := ?_) (by first | exact hF | exact wideFn) (HS12.out _ Bq.out) rfl (by kernel_rfl) (by kernel_rfl) (by kernel_rfl) (by kernel_rfl) rfl ?_ (by first | exact fun _ _ _ h => h | exact fun _ _ _ h => hQ2 _ _ _ _ _ h) ?_
          rotate_left
          · intro W hSW
            simp only [glA, glB, glC]
            (try dsimp only at hSW)
            go_simp
            with_reducible rfl
          (try simp only [glA, glB, glC, Act.put, glD, glE, glF])
          refine wpAnyJ_done (by kernel_rfl) ?_
          go_wp2_with fail
          go_ret
          exact ⟨ret_int HBR.out.symm, Br.out⟩
end Go.Proofs.YtcgdalabenflmaaDoor
