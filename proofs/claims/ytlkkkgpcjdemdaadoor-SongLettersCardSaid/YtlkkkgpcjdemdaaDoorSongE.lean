/- Song: in how many ways the rest of a line can be filled (count), walked. -/
import Derived.Test.YtlkkkgpcjdemdaaDoorSongD
import Derived.Maps.AppendAt
import Derived.RangeFuncBox
import Derived.Laws.IdiomStrings
set_option linter.unusedSimpArgs false
set_option linter.unusedVariables false
set_option linter.unnecessarySimpa false
namespace Go.Proofs.YtlkkkgpcjdemdaaDoor
open List renaming getElem_toArray → glA, getElem_cons_zero → glB, getElem_cons_succ → glC, setIfInBounds_toArray → glD, set_cons_zero → glE, set_cons_succ → glF
open Go Go.RowKit Go.Shelf
attribute [local go_sem] Oper.semAt_some
set_option maxHeartbeats 8000000
set_option maxRecDepth 100000
def CtPost (w : World) (fb mp : Nat) (s : ByteArray) (u : Int) (p : List UInt8) (x : Nat × Int) (e : Ending) (w' : World) : Prop :=
  e = .returned (.int .i64 (plW p x : Nat)) ∧ FlR w' fb mp s u p ∧ w.grownBy w' (some mp)
/-- what the call keeps: g its pointer, g + 1 its place, g + 2 its sum -/
structure CtS (w W : World) (mp : Nat) (p : List UInt8) (g fb i : Nat) (left : Int) (v : Nat) : Prop where
  gb : w.grownBy W (some mp)
  pm : PmAt W mp p
  k2 : Blk W g 125 #[.pointer (some ⟨fb, 0, none⟩)]
  k3 : Blk W (g + 1) 127 #[.int .i64 (i : Nat), .int .i64 left]
  k4 : Blk W (g + 2) 3 #[.int .i64 (v : Nat)]
variable {w W W' : World} {mp : Nat} {p : List UInt8} {g fb i : Nat} {left : Int} {v : Nat}
theorem CtS.ext (h : CtS w W mp p g fb i left v) (hb : Below W.heap.size W W') : CtS w W' mp p g fb i left v :=
  ⟨sgr_more h.gb (grown_no' hb) (fun r e => by cases e), h.pm.ext hb, h.k2.ext hb, h.k3.ext hb, h.k4.ext hb⟩
theorem CtS.turn (h : CtS w W mp p g fb i left v) (hg : W.grownBy W' (some mp)) (hf : PmAt W' mp p) (hm : mp < g) : CtS w W' mp p g fb i left v :=
  ⟨sgr_trans h.gb hg, hf, h.k2.grown hg (fun e => by injection e with e; omega), h.k3.grown hg (fun e => by injection e with e; omega), h.k4.grown hg (fun e => by injection e with e; omega)⟩
theorem CtS.out (h : CtS w W mp p g fb i left v) {a b : Nat} (ho : OutK a b W W') (ha : w.heap.size ≤ a) (hm : mp < a) (hg : g + 2 < a) : CtS w W' mp p g fb i left v :=
  ⟨⟨ho.os.trans h.gb.os, ho.tape.trans h.gb.tape, ho.output.trans h.gb.output, Nat.le_trans h.gb.size ho.size, fun k hk e => (ho.block k (Nat.lt_of_lt_of_le hk h.gb.size) (by omega)).trans (h.gb.block k hk e)⟩,
    h.pm.same (ho.block mp h.pm.lt (by omega)), ho.blk h.k2 (by omega), ho.blk h.k3 (by omega), ho.blk h.k4 (by omega)⟩
theorem CtS.set (h : CtS w W mp p g fb i left v) (hw : w.heap.size ≤ g) (hm : mp < g) (v' : Nat) : CtS w (W.setCell ⟨g + 2, 0, none⟩ (.int .i64 (v' : Nat))) mp p g fb i left v' :=
  have hg := grownBy_setCell' W (g + 2) (.int .i64 (v' : Nat))
  ⟨sgr_more h.gb hg (fun r e => by cases e; omega), h.pm.kept hg (fun e => by injection e with e; omega), h.k2.far (p := ⟨g + 2, 0, none⟩) (fun e => by dsimp only at e; omega) _, h.k3.far (p := ⟨g + 2, 0, none⟩) (fun e => by dsimp only at e; omega) _, by simpa using h.k4.set_ 0 (.int .i64 (v' : Nat))⟩
theorem count_any (fb mp : Nat) (s : ByteArray) (u : Int) (p : List UInt8) (hp : s.data.toList = p) : ∀ (k : Nat) (x : Nat × Int) (w : World), p.length - x.1 < k → PlOk p x → FlR w fb mp s u p →
    Calls Tryd.prog 70 #[.pointer (some ⟨fb, 0, none⟩), plV x] w (CtPost w fb mp s u p x) := by
  intro k
  induction k with
  | zero => intro x w h; omega
  | succ k ih =>
  intro x w hk hx hf0
  have HIH := hide ih
  have HX := hide hx
  have HK := hide hk
  have HF0 := hide hf0
  have HLK := hide (fun W (h : PmAt W mp p) => pm_look h hx)
  have hlen : p.length = s.size := by rw [← hp]; exact (size_len rfl).symm
  obtain ⟨i, left⟩ := x
  obtain ⟨v, hv⟩ : ∃ y, plW p (i, left) = y := ⟨_, rfl⟩
  have HV := hide hv
  have hn60 := hx.n
  have hil := hx.i
  have hlf := hx.l
  dsimp only at hil hlf
  have hvb : v ≤ 1152921504606846976 := by rw [← hv]; exact plW_bd hn60 _
  unfold CtPost
  rw [hv]
  unfold plV at HLK ⊢
  dsimp only at HLK ⊢
  refine (callsIn_wide (n := 9)).1 ?_
  obtain ⟨F, hFw⟩ : ∃ F : Fence, F = Fence.wide := ⟨_, rfl⟩
  rw [← hFw]
  have hF : ∀ f, F.fn f := by rw [hFw]; exact fun _ => trivial
  have hro : F.round = none := by rw [hFw]; rfl
  have hroom : ∀ j, F.room j := by rw [hFw]; exact fun _ => room_wide _
  have hwd : ∀ {n f args w R}, Calls Tryd.prog f args w R → CallsIn F n Tryd.prog f args w R := by rw [hFw]; exact fun h => callsIn_wide.2 h
  clear hFw
  have HMP : Hid (mp < w.heap.size) := hide hf0.pm.lt
  have HFB : Hid (fb < w.heap.size) := hide hf0.blk.lt
  obtain ⟨g, hg⟩ : ∃ x, w.heap.size = x := ⟨_, rfl⟩
  have HG : Hid (w.heap.size = g) := hide hg
  have HB1 : Hid (Below w.heap.size w (((w.alloc (.cells #[.pointer (some ⟨fb, 0, none⟩)] 125)).alloc (.cells #[.int .i64 (i : Nat), .int .i64 left] 127)).alloc (.cells #[.int .i64 0] 3))) := hide ((((Below.refl _ _).alloc (Nat.le_refl _) _).alloc (by simp) _).alloc (by simp; omega) _)
  have HS1 : Hid (CtS w (((w.alloc (.cells #[.pointer (some ⟨fb, 0, none⟩)] 125)).alloc (.cells #[.int .i64 (i : Nat), .int .i64 left] 127)).alloc (.cells #[.int .i64 0] 3)) mp p g fb i left 0) := hide ⟨sgr_below HB1.out mp, (hf0.ext HB1.out).pm, by
      rw [← hg]; exact ((Blk.new w _ _).alloc _).alloc _, by
      rw [← hg]
      have := (Blk.new (w.alloc (.cells #[.pointer (some ⟨fb, 0, none⟩)] 125)) 127 #[.int .i64 (i : Nat), .int .i64 left]).alloc (.cells #[.int .i64 0] 3)
      rwa [World.size_alloc] at this, by
      rw [← hg]
      have := Blk.new ((w.alloc (.cells #[.pointer (some ⟨fb, 0, none⟩)] 125)).alloc (.cells #[.int .i64 (i : Nat), .int .i64 left] 127)) 3 #[.int .i64 0]
      rwa [World.size_alloc, World.size_alloc] at this⟩
  have HSA : Hid (∀ W v, CtS w W mp p g fb i left v → (W.cell? ⟨g, 0, none⟩ = some (.pointer (some ⟨fb, 0, none⟩)) ∧ (W.cell? ⟨g + 1, 0, none⟩ = some (.int .i64 (i : Nat)) ∧ W.cell? ⟨g + 1, 1, none⟩ = some (.int .i64 left)) ∧ (W.cell? ⟨fb, 0, none⟩ = some (.string s) ∧ W.cell? ⟨fb, 2, none⟩ = some (.map (some mp))))) := hide (fun W v h => by
    have h1 := hf0.turn h.gb h.pm
    obtain ⟨-, x0, -⟩ := blk1 h.k2
    obtain ⟨-, y0, y1, -⟩ := blk2 h.k3
    obtain ⟨-, z0, -, z2, -⟩ := blk3 h1.blk
    exact ⟨x0, ⟨y0, y1⟩, ⟨z0, z2⟩⟩)
  have HLO : Hid (w.heap.size ≤ g ∧ mp < g ∧ fb < g) := hide ⟨by omega, by rw [← hg]; exact HMP.out, by rw [← hg]; exact HFB.out⟩
  have HEND : Hid (∀ W, CtS w W mp p g fb i left v → FlR W fb mp s u p ∧ w.grownBy W (some mp)) := hide (fun W h => ⟨hf0.turn h.gb h.pm, h.gb⟩)
  refine callsIn_of_wp_marks Tryd.func70 rfl (hF _) ?_ hro
  simp only [Tryd.ntmps70, List.size_toArray, List.length_cons, List.length_nil, Nat.reduceAdd, Nat.reduceSub, Array.replicate_succ, Array.replicate_zero, List.push_toArray, List.append_toArray, List.nil_append, List.cons_append]
  have HLEN := hide hlen
  have HP := hide hp
  clear HB1 ih hk hx hv hf0 HMP HFB hp
  gi_wp2_with fail
  (try simp only [World.size_alloc])
  (try rw [hg])
  clear hg
  generalize (((w.alloc (.cells #[.pointer (some ⟨fb, 0, none⟩)] 125)).alloc (.cells #[.int .i64 (i : Nat), .int .i64 left] 127)).alloc (.cells #[.int .i64 0] 3)) = w1 at HS1 ⊢
  (try simp only [Nat.add_assoc, Nat.reduceAdd])
  refine wpIn_on ?_
  refine wpIn_region_J (fun W : World => (W.cell? ⟨g, 0, none⟩ = some (.pointer (some ⟨fb, 0, none⟩)) ∧ (W.cell? ⟨g + 1, 0, none⟩ = some (.int .i64 (i : Nat)) ∧ W.cell? ⟨g + 1, 1, none⟩ = some (.int .i64 left)) ∧ (W.cell? ⟨fb, 0, none⟩ = some (.string s) ∧ W.cell? ⟨fb, 2, none⟩ = some (.map (some mp))))) (by kernel_rfl) ?_
  replace HS1 := hide (HS1.out.ext (Below.refl w1.heap.size w1).drew)
  generalize w1.drew = wd at HS1 ⊢
  refine tk_start [0, 1, 2, 3, 4, 5, 6, 7, 8] ?_
  iterate 9
    refine tk_one (v := ?_) (by first | exact hF | exact wideFn) (HSA.out _ _ HS1.out) rfl (by kernel_rfl) (by kernel_rfl) (by kernel_rfl) (by kernel_rfl) rfl ?_ (by first | exact fun _ _ _ h => h | exact fun _ _ _ h => hQ2 _ _ _ _ _ h) ?_
    rotate_left
    · intro W hSW
      simp only [glA, glB, glC]
      (try dsimp only at hSW)
      go_simp
      with_reducible rfl
    (try simp only [glA, glB, glC, Act.put, glD, glE, glF])
  refine tk_end ?_
  refine wpAnyJ_done (by kernel_rfl) ?_
  dsimp only [OnlyNormal]
  have hpl : p.length = s.size := HLEN.out
  by_cases hend : i = s.size
  · have hv0 : v = if 0 < left then 0 else 1 := by
      rw [← HV.out]
      unfold plW
      rw [List.drop_eq_nil_of_le (by dsimp only; omega)]
      rfl
    obtain ⟨c4, cc4, cf4⟩ := blk1 HS1.out.k4
    obtain ⟨c3, cc30, cc31, cf3⟩ := blk2 HS1.out.k3
    have hend' : (i : Int) = (s.size : Int) := by omega
    by_cases hl : 0 < left
    · rw [if_pos hl] at hv0
      have HE := hide (HEND.out _ (by rw [hv0]; exact HS1.out.set HLO.out.1 HLO.out.2.1 0))
      have HC : Hid ((wd.setCell ⟨g + 2, 0, none⟩ (.int .i64 0)).cell? ⟨g + 2, 0, none⟩ = some (.int .i64 0)) := hide (blk1 (HS1.out.set HLO.out.1 HLO.out.2.1 0).k4).2.1
      clear hvb
      subst hv0
      gi_wp2_with fail
      refine ⟨.int .i64 0, by have := HC.out; simp [results, Tryd.results70, go_sem, this], ?_⟩
      exact ⟨rfl, HE.out⟩
    · rw [if_neg hl] at hv0
      have HE := hide (HEND.out _ (by rw [hv0]; exact HS1.out.set HLO.out.1 HLO.out.2.1 1))
      have HC : Hid ((wd.setCell ⟨g + 2, 0, none⟩ (.int .i64 1)).cell? ⟨g + 2, 0, none⟩ = some (.int .i64 1)) := hide (blk1 (HS1.out.set HLO.out.1 HLO.out.2.1 1).k4).2.1
      clear hvb
      subst hv0
      gi_wp2_with fail
      refine ⟨.int .i64 1, by have := HC.out; simp [results, Tryd.results70, go_sem, this], ?_⟩
      exact ⟨rfl, HE.out⟩
  have hne : ¬ (i : Int) = (s.size : Int) := by omega
  have his : i < s.size := by omega
  gi_wp2_with fail
  clear hne
  replace HS1 := hide (HS1.out.ext (Below.refl wd.heap.size wd).drew)
  obtain ⟨c, y, hlk, hcy⟩ := HLK.out _ HS1.out.pm
  have HLK2 := hide hlk
  clear hlk
  refine wpIn_on ?_
  refine wpIn_region_J (fun W : World => ((W.cell? ⟨g, 0, none⟩ = some (.pointer (some ⟨fb, 0, none⟩)) ∧ (W.cell? ⟨g + 1, 0, none⟩ = some (.int .i64 (i : Nat)) ∧ W.cell? ⟨g + 1, 1, none⟩ = some (.int .i64 left)) ∧ (W.cell? ⟨fb, 0, none⟩ = some (.string s) ∧ W.cell? ⟨fb, 2, none⟩ = some (.map (some mp)))) ∧ (Instr.lookup 160 (.map (some mp)) (.agg #[.int .i64 (i : Nat), .int .i64 left]) true).run Tryd.prog W = .ok (.tuple #[.int .i64 c, .bool y]) W)) (by kernel_rfl) ?_
  generalize wd.drew = w3 at HS1 HLK2 ⊢
  refine tk_start [0, 1, 2, 3, 4, 5, 6, 7, 8, 9, 10] ?_
  iterate 11
    refine tk_one (v := ?_) (by first | exact hF | exact wideFn) ⟨HSA.out _ _ HS1.out, HLK2.out⟩ rfl (by kernel_rfl) (by kernel_rfl) (by kernel_rfl) (by kernel_rfl) rfl ?_ (by first | exact fun _ _ _ h => h | exact fun _ _ _ h => hQ2 _ _ _ _ _ h) ?_
    rotate_left
    · intro W hSW
      simp only [glA, glB, glC]
      (try dsimp only at hSW)
      go_simp
      with_reducible rfl
    (try simp only [glA, glB, glC, Act.put, glD, glE, glF])
  refine tk_end ?_
  refine wpAnyJ_done (by kernel_rfl) ?_
  dsimp only [OnlyNormal]
  rw [HV.out] at hcy
  obtain ⟨c4, cc4, cf4⟩ := blk1 HS1.out.k4
  cases y with
  | true =>
    obtain rfl := hcy rfl
    have HE := hide (HEND.out _ (HS1.out.set HLO.out.1 HLO.out.2.1 v))
    have HC := hide (blk1 (HS1.out.set HLO.out.1 HLO.out.2.1 v).k4).2.1
    gi_wp2_with fail
    refine ⟨.int .i64 v, by have := HC.out; simp [results, Tryd.results70, go_sem, this], ?_⟩
    exact ⟨rfl, HE.out⟩
  | false =>
  clear hcy HLK2
  obtain ⟨c2, cc2, cf2⟩ := blk1 HS1.out.k2
  obtain ⟨c3, cc30, cc31, cf3⟩ := blk2 HS1.out.k3
  have hmf : ∀ (fn : Fn) (first cap : Array Value) (w : World), (Instr.makeFunc fn first cap).run Tryd.prog w = .ok (.func fn first cap) w := fun _ _ _ _ => rfl
  (try dsimp only)
  (repeat (first | go_values | gi_guarded | gi_step | gi_upon))
  clear hmf
  (with_reducible refine (hwd (next_any fb i left _)).mono ?_)
  rintro e w4 ⟨rfl, rfl⟩
  (try dsimp only)
  (repeat (first | go_values | gi_guarded | gi_step | gi_upon))
  have hb4 : Below w3.heap.size w3 ((w3.alloc (.cells #[.pointer (some ⟨fb, 0, none⟩)] 125)).alloc (.cells #[.int .i64 (i : Nat), .int .i64 left] 127)) := ((Below.refl _ _).alloc (Nat.le_refl _) _).alloc (by simp) _
  have HS4 := hide (HS1.out.ext hb4)
  have K5 := hide ((Blk.new w3 125 #[.pointer (some ⟨fb, 0, none⟩)]).alloc (.cells #[.int .i64 (i : Nat), .int .i64 left] 127))
  have K6 := hide (Blk.new (w3.alloc (.cells #[.pointer (some ⟨fb, 0, none⟩)] 125)) 127 #[.int .i64 (i : Nat), .int .i64 left])
  rw [World.size_alloc] at K6
  have HLT : Hid (g + 2 < w3.heap.size) := hide HS1.out.k4.lt
  have HZ4 : Hid (((w3.alloc (.cells #[.pointer (some ⟨fb, 0, none⟩)] 125)).alloc (.cells #[.int .i64 (i : Nat), .int .i64 left] 127)).heap.size = w3.heap.size + 2) := hide (by simp)
  obtain ⟨pf, hpf⟩ : ∃ x, w3.heap.size = x := ⟨_, rfl⟩
  rw [hpf] at K5 K6 HLT HZ4 ⊢
  clear hb4 hpf
  generalize (w3.alloc (.cells #[.pointer (some ⟨fb, 0, none⟩)] 125)).alloc (.cells #[.int .i64 (i : Nat), .int .i64 left] 127) = w4 at HS4 K5 K6 HZ4 ⊢
  obtain ⟨ch, hch⟩ : ∃ ch, s[i]'his = ch := ⟨_, rfl⟩
  have hdr : p.drop i = ch :: p.drop (i + 1) := sdrop_at (by omega) (by
    have h := byte_at HP.out his
    rw [List.getD_eq_getElem?_getD, List.getElem?_eq_getElem (by omega), Option.getD_some] at h
    rw [← hch]
    exact h.symm)
  have hst := nx_seq F (9 - 1) hF hro hroom (by omega) (pf + 1) pf fb i left s ch his (by omega) hch hlf w4
  have hsm : smN (p.drop (i + 1)) (nxW ch left 2) = v := by rw [smN_all, ← hdr]; exact HV.out
  have HSM := hide hsm
  have HLF := hide hlf
  clear hdr hsm hch
  obtain ⟨A, hA⟩ : ∃ A, w4.heap.size = A := ⟨_, rfl⟩
  have HA : Hid (A = pf + 2) := hide (by rw [← hA]; exact HZ4.out)
  refine wpIn_rangeFunc_z hro (by omega) (gf := 106) (fs := #[]) (lb := #[.pointer (some ⟨pf + 1, 0, none⟩), .pointer (some ⟨pf, 0, none⟩)]) rfl (hF _) (enters_of Tryd.func106 (by kernel_rfl) rfl) hst (Below.refl _ _) (fun _ => rfl)
    (fun _ pre W => CtS w W mp p g fb i left (smN (p.drop (i + 1)) pre) ∧ Blk W pf 125 #[.pointer (some ⟨fb, 0, none⟩)] ∧ Blk W (pf + 1) 127 #[.int .i64 (i : Nat), .int .i64 left]) (fun _ _ _ => False) ?hZ ?hI0 ?hI (fun _ _ _ _ h _ => h)
    (fun M x a' W => ∃ g8, a' = { tmps := #[.pointer (some ⟨fb, 0, none⟩), .agg #[.int .i64 (i : Nat), .int .i64 left], .pointer (some ⟨g, 0, none⟩), .pointer (some ⟨g + 1, 0, none⟩), .pointer (some ⟨g + 2, 0, none⟩), .int .i64 c, .bool false, undef, .pointer (some ⟨g8, 0, none⟩), .pointer (some ⟨g + 1, 0, none⟩), .int .i64 (i : Nat), .pointer (some ⟨fb, 0, none⟩), .pointer (some ⟨fb, 0, none⟩), .pointer (some ⟨fb, 0, none⟩), .pointer (some ⟨fb, 0, none⟩), .string s, .int .i64 (s.size : Nat), .bool false, undef, undef, undef, .tuple #[.int .i64 c, .bool false], .pointer (some ⟨fb, 0, none⟩), .pointer (some ⟨fb, 0, none⟩), .pointer (some ⟨fb, 2, none⟩), .map (some mp), .agg #[.int .i64 (i : Nat), .int .i64 left], .tuple #[.int .i64 c, .bool false], .int .i64 c, .bool false, .bool false, undef, .func (.func 105) #[] #[.pointer (some ⟨g + 2, 0, none⟩), .pointer (some ⟨g, 0, none⟩), .pointer (some ⟨g + 1, 0, none⟩)], .pointer (some ⟨fb, 0, none⟩), .agg #[.int .i64 (i : Nat), .int .i64 left], .func (.func 106) #[] #[.pointer (some ⟨pf + 1, 0, none⟩), .pointer (some ⟨pf, 0, none⟩)], .int .u8 (x.1.toNat : Int), .agg #[.int .i64 ((i : Int) + 1), .int .i64 x.2], undef, undef, undef, undef, undef, undef], defers := [] } ∧ M ≤ g8 ∧ Blk W g8 127 #[.int .i64 ((i : Int) + 1), .int .i64 x.2])
    ?hAx ?hassign ?hbody ?hdone ?hstop
  case hZ =>
    rintro M pre W ⟨h1, h2, h3⟩
    obtain ⟨-, -, hz⟩ := HSA.out _ _ h1
    obtain ⟨-, y0, -⟩ := blk1 h2
    obtain ⟨-, z0, z1, -⟩ := blk2 h3
    exact ⟨z0, z1, y0, hz.1⟩
  case hI0 =>
    intro W1 h1 _
    exact ⟨HS4.out.ext h1, K5.out.ext h1, K6.out.ext h1⟩
  case hI =>
    rintro M pre W1 W2 ⟨h1, h2, h3⟩ ho
    rw [hA] at ho
    have e1 := HA.out
    have e2 := HLT.out
    have e3 := HLO.out
    exact ⟨h1.out ho (by omega) (by omega) (by omega), ho.blk h2 (by omega), ho.blk h3 (by omega)⟩
  case hAx =>
    rintro M x a' W1 W2 ⟨g8, rfl, h1, h2⟩ ho
    exact ⟨g8, rfl, h1, ho.blk h2 (by omega)⟩
  case hassign =>
    intro l M pre x W K hMW hI hK
    have HK2 := hide hK
    clear hK
    unfold nxE
    gi_wp2_with fail
    have hbn : Below W.heap.size W (W.alloc (.cells #[.int .i64 ((i : Int) + 1), .int .i64 x.2] 127)) := (Below.refl _ _).alloc (Nat.le_refl _) _
    refine HK2.out _ _ (KeepB.of_below hbn hMW) ⟨hI.1.ext hbn, hI.2.1.ext hbn, hI.2.2.ext hbn⟩ ⟨W.heap.size, rfl, hMW, ?_⟩
    exact Blk.new W _ _
  case hbody =>
    rintro l M pre x a' W hM2 hMW hpre ⟨hS, h5, h6⟩ ⟨g8, rfl, hg8, hk8⟩
    rw [hA] at hM2
    obtain ⟨sm, hsm⟩ : ∃ y, smN (p.drop (i + 1)) pre = y := ⟨_, rfl⟩
    rw [hsm] at hS
    obtain ⟨x1, x2⟩ := x
    dsimp only at hk8 ⊢
    have hmem : (x1, x2) ∈ nxW ch left 2 := by
      obtain ⟨t, ht⟩ := hpre
      rw [← ht]; simp
    have hlx : LfOk x2 := nx_mem HLF.out hmem
    have hsx : smN (p.drop (i + 1)) (pre ++ [(x1, x2)]) = sm + plW p (i + 1, x2) := by rw [smN_app, hsm]; rfl
    have hle : sm + plW p (i + 1, x2) ≤ v := by
      rw [← hsx, ← HSM.out]
      exact smN_le hpre
    obtain ⟨nx, hnx⟩ : ∃ y, plW p (i + 1, x2) = y := ⟨_, rfl⟩
    rw [hnx] at hsx hle
    have HSX := hide hsx
    have HPX : Hid (PlOk p (i + 1, x2)) := hide ⟨hn60, by show i + 1 ≤ p.length; omega, hlx⟩
    have HKX : Hid (p.length - (i + 1) < k) := hide (by have := HK.out; omega)
    have HIX : Hid (∀ W, FlR W fb mp s u p → Calls Tryd.prog 70 #[.pointer (some ⟨fb, 0, none⟩), .agg #[.int .i64 ((i : Int) + 1), .int .i64 x2]] W fun e w' => e = .returned (.int .i64 (nx : Nat)) ∧ FlR w' fb mp s u p ∧ W.grownBy w' (some mp)) := hide (fun W h => by
      have h1 := HIH.out (i + 1, x2) W HKX.out HPX.out h
      unfold CtPost plV at h1
      dsimp only at h1
      rw [hnx, show (((i + 1 : Nat)) : Int) = (i : Int) + 1 from by omega] at h1
      exact h1)
    clear hmem hlx hsx hpre hnx hsm hst
    have HKB : Hid (KeepB A M W W.drew) := hide (KeepB.of_below (Below.refl W.heap.size W).drew hMW)
    have S1 := hide (hS.ext (Below.refl W.heap.size W).drew)
    have B5 := hide (h5.ext (Below.refl W.heap.size W).drew)
    have B6 := hide (h6.ext (Below.refl W.heap.size W).drew)
    have B8 := hide (hk8.ext (Below.refl W.heap.size W).drew)
    have HMW : Hid (M ≤ W.drew.heap.size) := hide hMW
    clear hS h5 h6 hk8
    have hw1 : IntKind.i64.wrap ((sm : Int) + (nx : Int)) = ((sm + nx : Nat) : Int) := by rw [IntWalk.i64_in _ (by omega)]; omega
    have HSB : Hid (∀ W, CtS w W mp p g fb i left sm → Blk W g8 127 #[.int .i64 ((i : Int) + 1), .int .i64 x2] → (W.cell? ⟨g + 2, 0, none⟩ = some (.int .i64 (sm : Nat)) ∧ W.cell? ⟨g, 0, none⟩ = some (.pointer (some ⟨fb, 0, none⟩)) ∧ (W.cell? ⟨g8, 0, none⟩ = some (.int .i64 ((i : Int) + 1)) ∧ W.cell? ⟨g8, 1, none⟩ = some (.int .i64 x2)))) := hide (fun W h1 h2 => by
      obtain ⟨-, y0, -⟩ := blk1 h1.k4
      obtain ⟨-, y1, -⟩ := blk1 h1.k2
      obtain ⟨-, z0, z1, -⟩ := blk2 h2
      exact ⟨y0, y1, ⟨z0, z1⟩⟩)
    gi_wp2_with fail
    refine wpIn_on ?_
    refine wpIn_region_J (fun W : World => (W.cell? ⟨g + 2, 0, none⟩ = some (.int .i64 (sm : Nat)) ∧ W.cell? ⟨g, 0, none⟩ = some (.pointer (some ⟨fb, 0, none⟩)) ∧ (W.cell? ⟨g8, 0, none⟩ = some (.int .i64 ((i : Int) + 1)) ∧ W.cell? ⟨g8, 1, none⟩ = some (.int .i64 x2)))) (by kernel_rfl) ?_
    generalize W.drew = w7 at HKB S1 B5 B6 B8 HMW ⊢
    refine tk_start [0, 1, 2] ?_
    iterate 3
      refine tk_one (v := ?_) (by first | exact hF | exact wideFn) (HSB.out _ S1.out B8.out) rfl (by kernel_rfl) (by kernel_rfl) (by kernel_rfl) (by kernel_rfl) rfl ?_ (by first | exact fun _ _ _ h => h | exact fun _ _ _ h => hQ2 _ _ _ _ _ h) ?_
      rotate_left
      · intro W hSW
        simp only [glA, glB, glC]
        (try dsimp only at hSW)
        go_simp
        with_reducible rfl
      (try simp only [glA, glB, glC, Act.put, glD, glE, glF])
    refine tk_end ?_
    refine wpAnyJ_one 3 rfl (by kernel_rfl) (fun K hK => ?_)
    simp only [glA, glB, glC]
    go_simp
    (with_reducible refine ((CallsIn.inRound l (hwd (HIX.out w7 (HF0.out.turn S1.out.gb S1.out.pm))))).mono ?_)
    rintro e w9 ⟨rfl, h9, g9⟩
    have S3 := hide (S1.out.turn g9 h9.pm HLO.out.2.1); have B8' := hide (B8.out.grown g9 (fun e => by injection e with e; have h1 := HLO.out; have h2 := HLT.out; have h3 := HA.out; omega))
    dsimp only
    refine hK.out _ _ (fun _ => HSB.out _ S3.out B8'.out) ?_
    clear hK K
    (try simp only [glA, glB, glC, Act.put, glD, glE, glF])
    refine wpAnyJ_take 4 (v := ?_) (by first | exact hF | exact wideFn) (HSB.out _ S3.out B8'.out) rfl (by kernel_rfl) (by kernel_rfl) (by kernel_rfl) (by kernel_rfl) rfl ?_ (by first | exact fun _ _ _ h => h | exact fun _ _ _ h => hQ2 _ _ _ _ _ h) ?_
    rotate_left
    · intro W hSW
      simp only [glA, glB, glC]
      (try dsimp only at hSW)
      go_simp
      with_reducible rfl
    (try simp only [glA, glB, glC, Act.put, glD, glE, glF])
    obtain ⟨f1, c1, c2⟩ := blk1 S3.out.k4
    refine wpAnyJ_one 5 rfl (by kernel_rfl) (fun K hK => ?_)
    simp only [glA, glB, glC]
    go_simp
    refine hK.out _ _ (fun h => absurd h (by rw [show lastOp _ _ _ = true from by kernel_rfl]; simp)) ?_
    clear hK K
    (try simp only [glA, glB, glC, Act.put, glD, glE, glF])
    refine wpAnyJ_done (by kernel_rfl) ?_
    dsimp only [OnlyNormal]
    have e1 := HLO.out
    have e2 := HLT.out
    have e3 := HA.out
    have hkeep : KeepB A M W (w9.setCell ⟨g + 2, 0, none⟩ (.int .i64 (sm + nx : Nat))) :=
      (HKB.out.trans (KeepB.grown g9 (fun r e => by injection e with e; omega) HMW.out)).trans (KeepB.set w9 (by omega) 0 _)
    rw [← hA] at hkeep
    refine ⟨hkeep, ?_, ?_, ?_⟩
    · rw [HSX.out]
      exact S3.out.set e1.1 e1.2.1 (sm + nx)
    · exact (B5.out.grown g9 (fun e => by injection e with e; omega)).far (p := ⟨g + 2, 0, none⟩) (fun e => by dsimp only at e; omega) _
    · exact (B6.out.grown g9 (fun e => by injection e with e; omega)).far (p := ⟨g + 2, 0, none⟩) (fun e => by dsimp only at e; omega) _
  case hdone =>
    rintro D M W hD ⟨hS, h5, h6⟩ hK
    rw [HSM.out] at hS
    obtain ⟨c4, cc4, cf4⟩ := blk1 hS.k4
    have HS := hide (hS.set HLO.out.1 HLO.out.2.1 v)
    have hKd : (W.setCell ⟨g + 2, 0, none⟩ (.int .i64 (v : Nat))).heap[D]? = some (.deferred (some [])) := (Below.heap_setCell _ _ _ D (by have h1 := HLO.out; have h2 := HLT.out; have h3 := HA.out; dsimp only; omega)).trans hK
    have HKD := hide hKd
    clear hS h5 h6 hK hKd hst
    gi_wp2_with fail
    refine ⟨by simp, .inl ⟨_, _, rfl, run_takeDeferred HKD.out, ?_⟩⟩
    have e1 := HLO.out
    have e2 := HLT.out
    have e3 := HA.out
    have hob : OutK D (D + 1) (W.setCell ⟨g + 2, 0, none⟩ (.int .i64 (v : Nat))) ((W.setCell ⟨g + 2, 0, none⟩ (.int .i64 (v : Nat))).putObj D (.deferred none)) := OutK.putObj _ (Nat.le_refl _) (by omega) _
    have hS2 := HS.out.out hob (by have := HG.out; omega) (by omega) (by omega)
    generalize (W.setCell ⟨g + 2, 0, none⟩ (.int .i64 (v : Nat))).putObj D (.deferred none) = W2 at hS2 ⊢
    refine ⟨by simp, .inr ⟨fun _ => by omega, .func 105, _, 105, #[.pointer (some ⟨g + 2, 0, none⟩), .pointer (some ⟨g, 0, none⟩), .pointer (some ⟨g + 1, 0, none⟩)], rfl, (by simp [invoke, go_sem]), (fun g' _ => hF g'), ?_⟩⟩
    obtain ⟨s1, ⟨s2, s3⟩, s4, s5⟩ := HSA.out _ _ hS2
    refine (known_d F (9 - 1) hF hro .returning W2 (g + 2) g (g + 1) fb mp i v left p HX.out hS2.pm HV.out ⟨s1, s5, ⟨s2, s3⟩, (blk1 hS2.k4).2.1⟩).mono ?_
    rintro e m' w' ⟨rfl, rfl, hp', hg'⟩
    have hS3 := hS2.turn hg' hp' e1.2.1
    have hc := (blk1 hS3.k4).2.1
    refine ⟨.int .i64 v, by simp [results, Tryd.results70, go_sem, hc], ?_⟩
    exact ⟨rfl, HEND.out _ hS3⟩
  case hstop =>
    intro D c pre W hD hSp h hK
    exact h.elim
end Go.Proofs.YtlkkkgpcjdemdaaDoor
/- Song: is it a line of a metre? a new filler; Count. -/
namespace Go.Proofs.YtlkkkgpcjdemdaaDoor
open Go Go.RowKit Go.Shelf
attribute [local go_sem] Oper.semAt_some
set_option maxHeartbeats 4000000
set_option maxRecDepth 100000
def lgx : List UInt8 := [108, 103, 120]
/-- a valid line of a metre: its pattern and its units -/
def lnOk (l : List UInt8) (u : Int) : Bool := decide (1 ≤ l.length) && (decide (l.length ≤ 60) && (l.all (fun b => lgx.contains b) && (decide (0 ≤ u) && decide (u ≤ 120))))
theorem lnOk_iff {l : List UInt8} {u : Int} : lnOk l u = true ↔ 1 ≤ l.length ∧ l.length ≤ 60 ∧ l.all (fun b => lgx.contains b) = true ∧ 0 ≤ u ∧ u ≤ 120 := by
  unfold lnOk
  rw [Bool.and_eq_true, Bool.and_eq_true, Bool.and_eq_true, Bool.and_eq_true, decide_eq_true_iff, decide_eq_true_iff, decide_eq_true_iff, decide_eq_true_iff]
theorem lnOk_no {l : List UInt8} {u : Int} (h : ¬ (1 ≤ l.length ∧ l.length ≤ 60 ∧ l.all (fun b => lgx.contains b) = true ∧ 0 ≤ u ∧ u ≤ 120)) : lnOk l u = false := by
  rw [← Bool.not_eq_true, lnOk_iff]; exact h
theorem trimS_all (l cs : List UInt8) : Go.Lib.trimS l cs = [] ↔ l.all (fun b => cs.contains b) = true := by
  unfold Go.Lib.trimS Go.Lib.trimLeftS Go.Lib.trimRightS
  rw [drop_nil, List.all_reverse, drop_all, List.all_reverse]
theorem isLine_any (s : ByteArray) (l : List UInt8) (hl : s.data.toList = l) (u : Int) (w : World) (hs : s.size ≤ maxLen) :
    Calls Tryd.prog 68 #[.agg #[.string s, .int .i64 u]] w fun e w' => e = .returned (.bool (lnOk l u)) ∧ Below w.heap.size w w' := by
  unfold maxLen at hs
  have HT := hide (fun (w : World) => Any.strings_Trim_laid lays160 (by kernel_rfl) s ⟨lgx.toArray⟩ w (by omega) (by decide) (ascii_of_all (by decide)))
  obtain ⟨R, hR⟩ : ∃ R, Go.Lib.trimS s.data.toList lgx = R := ⟨_, rfl⟩
  have hall : R = [] ↔ l.all (fun b => lgx.contains b) = true := by rw [← hR, hl]; exact trimS_all _ _
  have hlen : l.length = s.size := size_len hl
  have HT2 : Hid (∀ w : World, Calls Tryd.prog 56 #[.string s, .string ⟨#[108, 103, 120]⟩] w fun e w' => e = .returned (.string ⟨R.toArray⟩) ∧ Below w.heap.size w w') := hide (fun w => by
    have h := HT.out w
    rw [hR] at h
    exact h)
  obtain ⟨b, hb⟩ : ∃ b, lnOk l u = b := ⟨_, rfl⟩
  rw [hb]
  have hb0 : ∀ W, Below W.heap.size W (W.alloc (.cells #[.string s, .int .i64 u] 81)) := fun W => (Below.refl _ _).alloc (Nat.le_refl _) _
  have HB0 := hide (hb0 w)
  clear HT hR hb0
  by_cases h1 : 1 ≤ (s.size : Int)
  rotate_left
  · obtain rfl : b = false := by rw [← hb]; exact lnOk_no (fun h => by omega)
    clear hb
    go_enter Tryd.func68, Tryd.ntmps68
    go_wp2_with fail
    go_ret
    exact ⟨rfl, HB0.out⟩
  by_cases h2 : (s.size : Int) ≤ 60
  rotate_left
  · obtain rfl : b = false := by rw [← hb]; exact lnOk_no (fun h => by omega)
    clear hb
    go_enter Tryd.func68, Tryd.ntmps68
    go_wp2_with fail
    go_ret
    exact ⟨rfl, HB0.out⟩
  rcases R with _ | ⟨c, R⟩
  rotate_left
  · obtain rfl : b = false := by rw [← hb]; exact lnOk_no (fun h => by have := hall.2 h.2.2.1; cases this)
    clear hb hall
    go_enter Tryd.func68, Tryd.ntmps68
    go_wp2_with fail
    refine (HT2.out _).mono ?_
    rintro e w3 ⟨rfl, hb3⟩
    go_wp2_with fail
    go_ret
    exact ⟨rfl, HB0.out.trans (hb3.mono HB0.out.size)⟩
  have hal := hall.1 rfl
  by_cases h3 : 0 ≤ u
  rotate_left
  · obtain rfl : b = false := by rw [← hb]; exact lnOk_no (fun h => by omega)
    clear hb hall hal
    go_enter Tryd.func68, Tryd.ntmps68
    go_wp2_with fail
    refine (HT2.out _).mono ?_
    rintro e w3 ⟨rfl, hb3⟩
    obtain ⟨hc3, hf3⟩ := bcell hb3
    go_wp2_with fail
    go_ret
    exact ⟨rfl, HB0.out.trans (hb3.mono HB0.out.size)⟩
  by_cases h4 : u ≤ 120
  · obtain rfl : b = true := by rw [← hb, lnOk_iff]; exact ⟨by omega, by omega, hal, h3, h4⟩
    clear hb hall hal
    go_enter Tryd.func68, Tryd.ntmps68
    go_wp2_with fail
    refine (HT2.out _).mono ?_
    rintro e w3 ⟨rfl, hb3⟩
    obtain ⟨hc3, hf3⟩ := bcell hb3
    go_wp2_with fail
    go_ret
    exact ⟨rfl, HB0.out.trans (hb3.mono HB0.out.size)⟩
  · obtain rfl : b = false := by rw [← hb]; exact lnOk_no (fun h => by omega)
    clear hb hall hal
    go_enter Tryd.func68, Tryd.ntmps68
    go_wp2_with fail
    refine (HT2.out _).mono ?_
    rintro e w3 ⟨rfl, hb3⟩
    obtain ⟨hc3, hf3⟩ := bcell hb3
    go_wp2_with fail
    go_ret
    refine ⟨?_, HB0.out.trans (hb3.mono HB0.out.size)⟩
    show Ending.returned (.bool (decide (u ≤ 120))) = _
    rw [decide_eq_false (show ¬ u ≤ 120 by omega)]
/-- what a new filler is -/
def NfPost (w : World) (s : ByteArray) (u : Int) (p : List UInt8) (e : Ending) (w' : World) : Prop :=
  ∃ fb mp, e = .returned (.tuple #[.pointer (some ⟨fb, 0, none⟩), .agg #[.int .i64 0, .int .i64 (beW u)]]) ∧ FlR w' fb mp s u p ∧ w.heap.size ≤ mp ∧ Below w.heap.size w w'
theorem newFiller_any (s : ByteArray) (p : List UInt8) (u : Int) (w : World) : Calls Tryd.prog 69 #[.agg #[.string s, .int .i64 u]] w (NfPost w s u p) := by
  obtain ⟨g, hg⟩ : ∃ g, w.heap.size = g := ⟨_, rfl⟩
  obtain ⟨b, hb⟩ : ∃ b, beW u = b := ⟨_, rfl⟩
  obtain ⟨Q, hQ⟩ : ∃ Q, NfPost w s u p = Q := ⟨_, rfl⟩
  have HQ : Hid (∀ w', w' = ((((w.alloc (.cells #[.string s, .int .i64 u] 81)).alloc (.cells #[.int .i64 0, .int .i64 b] 127)).alloc (.map #[] 0)).alloc (.cells #[.string s, .int .i64 u, .map (some (g + 2))] 162)) →
      Q (.returned (.tuple #[.pointer (some ⟨g + 3, 0, none⟩), .agg #[.int .i64 0, .int .i64 b]])) w') := hide (by
    intro w' hw
    subst hw
    rw [← hQ, ← hb]
    have hb1 : Below g w (w.alloc (.cells #[.string s, .int .i64 u] 81)) := (Below.refl g w).alloc (by omega) _
    have hb2 := hb1.alloc (by simp; omega) (.cells #[.int .i64 0, .int .i64 (beW u)] 127)
    have hp := PmAt.made ((w.alloc (.cells #[.string s, .int .i64 u] 81)).alloc (.cells #[.int .i64 0, .int .i64 (beW u)] 127)) p
    have hb3 := hb2.alloc (by simp; omega) (.map #[] 0)
    have hk := Blk.new (((w.alloc (.cells #[.string s, .int .i64 u] 81)).alloc (.cells #[.int .i64 0, .int .i64 (beW u)] 127)).alloc (.map #[] 0)) 162 #[.string s, .int .i64 u, .map (some (g + 2))]
    have hb4 := hb3.alloc (by simp; omega) (.cells #[.string s, .int .i64 u, .map (some (g + 2))] 162)
    have hx := hp.ext ((Below.refl _ _).alloc (Nat.le_refl _) (.cells #[.string s, .int .i64 u, .map (some (g + 2))] 162))
    simp only [World.size_alloc] at hk hx
    rw [hg] at hk hx
    exact ⟨g + 3, g + 2, rfl, ⟨hk, hx⟩, by omega, by rw [hg]; exact hb4⟩)
  have HC : Hid (∀ w', w' = ((((w.alloc (.cells #[.string s, .int .i64 u] 81)).alloc (.cells #[.int .i64 0, .int .i64 b] 127)).alloc (.map #[] 0)).alloc (.cells #[.string s, .int .i64 u, .map (some (g + 2))] 162)) →
      w'.cell? ⟨g + 1, 0, none⟩ = some (.int .i64 0) ∧ w'.cell? ⟨g + 1, 1, none⟩ = some (.int .i64 b)) := hide (by
    intro w' hw
    subst hw
    have hk := ((Blk.new (w.alloc (.cells #[.string s, .int .i64 u] 81)) 127 #[.int .i64 0, .int .i64 b]).alloc (.map #[] 0)).alloc (.cells #[.string s, .int .i64 u, .map (some (g + 2))] 162)
    rw [World.size_alloc, hg] at hk
    obtain ⟨-, h1, h2, -⟩ := blk2 hk
    exact ⟨h1, h2⟩)
  rw [hQ]
  clear hQ
  have hmm := @run_makeMap Tryd.prog
  by_cases h0 : u = 0
  · subst h0
    obtain rfl : b = -1 := by rw [← hb]; rfl
    clear hb
    go_enter Tryd.func69, Tryd.ntmps69
    go_wp2_with fail
    simp only [Nat.add_assoc, Nat.reduceAdd]
    obtain ⟨h1, h2⟩ := HC.out _ rfl
    refine ⟨rfl, _, ?_, HQ.out _ rfl⟩
    simp [results, Tryd.results69, go_sem, h1, h2]
  · obtain rfl : b = u := by rw [← hb]; unfold beW; rw [if_neg h0]
    clear hb
    go_enter Tryd.func69, Tryd.ntmps69
    go_wp2_with fail
    simp only [Nat.add_assoc, Nat.reduceAdd]
    obtain ⟨h1, h2⟩ := HC.out _ rfl
    refine ⟨rfl, _, ?_, HQ.out _ rfl⟩
    simp [results, Tryd.results69, go_sem, h1, h2]
/-- what Count returns -/
def cnR (l : List UInt8) (u : Int) : Int × Int := if lnOk l u then ((ctW l (beW u) : Nat), 0) else (0, 2)
theorem Count_any (s : ByteArray) (l : List UInt8) (hl : s.data.toList = l) (u : Int) (w : World) (hs : s.size ≤ maxLen) :
    Calls Tryd.prog 41 #[.agg #[.string s, .int .i64 u]] w fun e w' => e = .returned (.tuple #[.int .i64 (cnR l u).1, .int .i64 (cnR l u).2]) ∧ Below w.heap.size w w' := by
  have HL := hide (fun W => isLine_any s l hl u W hs)
  have HB0 := hide ((Below.refl w.heap.size w).alloc (Nat.le_refl _) (.cells #[.string s, .int .i64 u] 81))
  unfold cnR
  rcases hok : lnOk l u with _ | _
  · rw [hok] at HL
    rw [if_neg (by simp)]
    dsimp only
    go_enter Tryd.func41, Tryd.ntmps41
    go_wp2_with fail
    refine (HL.out _).mono ?_
    rintro e w1 ⟨rfl, hb1⟩
    go_wp2_with fail
    go_ret2
    exact ⟨rfl, HB0.out.trans (hb1.mono HB0.out.size)⟩
  · rw [hok] at HL
    rw [if_pos rfl]
    dsimp only
    obtain ⟨k1, k2, k3, k4, k5⟩ := lnOk_iff.1 hok
    have HC := hide (fun fb mp W (h : FlR W fb mp s u l) => count_any fb mp s u l hl (l.length + 1) (0, beW u) W (by omega) ⟨k2, Nat.zero_le _, beW_ok ⟨k4, k5⟩⟩ h)
    have HC : Hid (∀ fb mp W, FlR W fb mp s u l → Calls Tryd.prog 70 #[.pointer (some ⟨fb, 0, none⟩), .agg #[.int .i64 0, .int .i64 (beW u)]] W fun e w' => e = .returned (.int .i64 (ctW l (beW u) : Nat)) ∧ FlR w' fb mp s u l ∧ W.grownBy w' (some mp)) := HC
    have HN := hide (fun W => newFiller_any s l u W)
    unfold NfPost at HN
    generalize ctW l (beW u) = n at HC ⊢
    generalize beW u = b at HC HN ⊢
    clear hok hl k1 k2 k3 k4 k5 hs
    go_enter Tryd.func41, Tryd.ntmps41
    go_wp2_with fail
    refine (HL.out _).mono ?_
    rintro e w1 ⟨rfl, hb1⟩
    obtain ⟨hc1, hf1⟩ := bcell hb1
    have hz1 := hb1.size
    go_wp2_with fail
    refine (HN.out _).mono ?_
    rintro e w2 ⟨fb, mp, rfl, hfl, hmp, hb2⟩
    go_wp2_with fail
    have HB3 := hide ((Below.refl w2.heap.size w2).alloc (Nat.le_refl _) (.cells #[.int .i64 0, .int .i64 b] 127))
    refine (HC.out fb mp _ (hfl.ext HB3.out)).mono ?_
    rintro e w3 ⟨rfl, -, hg3⟩
    have HE : Hid (Below w.heap.size w w3) := hide (by
      have h0 := HB0.out
      have h1 := h0.trans (hb1.mono h0.size)
      have h2 := h1.trans (hb2.mono h1.size)
      have h3 := h2.trans (HB3.out.mono h2.size)
      exact h3.grown hg3 h3.size (fun k e => by injection e with e; have := h1.size; omega))
    clear hg3 hfl hb2 hb1 hc1 hf1 hz1 hmp
    go_wp2_with fail
    go_ret2
    exact ⟨rfl, HE.out⟩
end Go.Proofs.YtlkkkgpcjdemdaaDoor
/- Words that hang on no chapter: own lists of bytes; a new row put behind an own list; where a function with marks ends. -/
namespace Go.Proofs.YtlkkkgpcjdemdaaDoor
open Go Go.RowKit Go.Shelf
set_option maxHeartbeats 2000000
set_option maxRecDepth 100000
theorem info_u8 : (Tryd.prog.info? 5).map (fun i => (i.zero, i.size, i.bytes)) = some (some (.int .u8 0), 1, 1) := by kernel_rfl
def bytV (l : List UInt8) : List Value := l.map fun b => .int .u8 (b.toNat : Int)
theorem bytV_len (l : List UInt8) : (bytV l).length = l.length := by simp [bytV]
theorem bytV_one (l : List UInt8) : ∀ u ∈ bytV l, u.oneCell' = true := by
  intro u hu
  obtain ⟨x, -, rfl⟩ := List.mem_map.1 hu
  rfl
/-- an own list of bytes -/
def OwnU (W : World) (n0 : Nat) (v : Value) (l : List UInt8) : Prop := W.ownsRow n0 5 1 v l.length (bytV l)
theorem OwnU.nil (W : World) (n0 : Nat) : OwnU W n0 (.slice none 0 0) [] := ⟨rfl, .inl ⟨rfl, rfl⟩⟩
/-- one more value behind an own list, out of a new row of one -/
theorem own_push {P : Program} {W : World} {base : Nat} (t e : TypeId) (i : TypeInfo) (z : Value) (bytes : Nat) (ht : P.underlying t = some (.slice e)) (hi : P.info? e = some i) (hz : i.zero = some z) (hs : i.size = 1) (hb : i.bytes = bytes) (hzs : z.cells.size = 1)
    {v : Value} {n : Nat} {xs : List Value} (h : W.ownsRow base e 1 v n xs) (x : Value) (hx : x.oneCell' = true) (hn : (n + 1) * bytes ≤ 140737488355328) (hn1 : n + 1 ≤ maxLen) (hbase : base ≤ W.heap.size) :
    ∃ v' w', (Builtin.append_ #[t, t] t #[v, .slice (some ⟨W.heap.size, 0, none⟩) 1 1]).run P (W.alloc (.cells #[x] e)) = .ok v' w' ∧ w'.ownsRow base e 1 v' (n + 1) (xs ++ [x]) ∧ (W.alloc (.cells #[x] e)).grownBy w' v.ownBlock ∧
      (v'.ownBlock = v.ownBlock ∨ v'.ownBlock = some (W.heap.size + 1)) := by
  have h1 : (W.alloc (.cells #[x] e)).ownsRow base e 1 v n xs := ownBelow h ((Below.refl _ _).alloc (Nat.le_refl _) _)
  obtain ⟨v', w', hr, h2, h3, -, h4⟩ := run_append_own_at (P := P) (w := W.alloc (.cells #[x] e)) base t t e i z 1 bytes ht hi hz hs hb hzs (by decide) v n xs h1 ⟨W.heap.size, 0, none⟩ 1 1 [x] rfl
    (fun j u hj => by
      have hlt := (List.getElem?_eq_some_iff.1 hj).1
      obtain rfl : j = 0 := by simpa using hlt
      have e4 : ((⟨W.heap.size, 0, none⟩ : Addr).add 0) = ⟨W.heap.size, 0, none⟩ := by simp [Addr.add]
      rw [e4, cell_new, ← hj]
      rfl) (fun u hu => by rw [List.mem_singleton.1 hu]; exact hx) hn1 hn (by simp; omega)
  refine ⟨v', w', hr, h2, h3, ?_⟩
  rcases h4 with h4 | h4
  · exact .inl h4
  · exact .inr (by rw [h4]; simp)
theorem OwnU.push {W : World} {base : Nat} {v : Value} {l : List UInt8} (h : OwnU W base v l) (b : UInt8) (hl : l.length ≤ 1000000) (hb : base ≤ W.heap.size) :
    ∃ v' w', (Builtin.append_ #[113, 113] 113 #[v, .slice (some ⟨W.heap.size, 0, none⟩) 1 1]).run Tryd.prog (W.alloc (.cells #[.int .u8 (b.toNat : Int)] 5)) = .ok v' w' ∧ OwnU w' base v' (l ++ [b]) ∧
      (W.alloc (.cells #[.int .u8 (b.toNat : Int)] 5)).grownBy w' v.ownBlock ∧ (v'.ownBlock = v.ownBlock ∨ v'.ownBlock = some (W.heap.size + 1)) := by
  obtain ⟨i0, hi, hz0, hz1, hz2⟩ := info_parts info_u8
  obtain ⟨v', w', hr, h2, h3, h4⟩ := own_push (P := Tryd.prog) 113 5 i0 _ 1 Tryd.underlying113 hi hz0 hz1 hz2 rfl h (.int .u8 (b.toNat : Int)) rfl (by omega) (by unfold maxLen; omega) hb
  refine ⟨v', w', hr, ?_, h3, h4⟩
  unfold OwnU
  unfold bytV at h2 ⊢
  rw [List.map_append, List.length_append]
  exact h2
/-- the text of an own list of bytes -/
theorem OwnU.text {W : World} {base : Nat} {v : Value} {l : List UInt8} (h : OwnU W base v l) (hl : l ≠ []) : (convert 113 9 v).run Tryd.prog W = .ok (.string ⟨l.toArray⟩) W := by
  rcases h.2 with ⟨-, h2⟩ | ⟨g, cap, cur, rfl, -, hg, -⟩
  · exact absurd (by simpa [bytV] using h2) hl
  · refine run_convert_bytes_back W 113 9 5 ⟨g, 0, none⟩ cap l Tryd.underlying113 Tryd.underlying5 Tryd.underlying9 ?_
    intro j hj
    refine World.ownsRow.cells h (g := g) rfl j _ ?_
    unfold bytV
    rw [List.getElem?_map, List.getElem?_eq_getElem hj]
    rfl
end Go.Proofs.YtlkkkgpcjdemdaaDoor
/- Song: Scan, walked. -/
namespace Go.Proofs.YtlkkkgpcjdemdaaDoor
open Go Go.RowKit Go.Shelf
attribute [local go_sem] Oper.semAt_some
set_option maxHeartbeats 8000000
set_option maxRecDepth 100000
theorem syllables_any (s : ByteArray) (w : World) :
    Calls Tryd.prog 59 #[.string s] w fun e w' => e = .returned (.func (.func 98) #[] #[.pointer (some ⟨w.heap.size, 0, none⟩)]) ∧ w.alloc (.cells #[.string s] 9) = w' := by
  go_enter Tryd.func59, Tryd.ntmps59
  go_wp2_with fail
  go_ret
  exact ⟨rfl, rfl⟩
/-- a valid line -/
theorem chk_ok {L : List UInt8} (h : chkE L = 0) : L.length ≤ 300 ∧ (∀ b ∈ ltr L, b.toNat < 128) ∧ ((ltr L).any fun b => vwB b.toNat) = true := by
  unfold chkE at h
  split at h
  · omega
  rename_i h1
  split at h
  · omega
  split at h
  · omega
  rename_i h3
  split at h
  · omega
  split at h
  · omega
  rename_i h5
  refine ⟨by omega, ?_, ?_⟩
  · intro b hb
    unfold ltr at hb
    have hb := (List.mem_filter.1 hb).1
    apply ok_lt
    rcases hk : okB b.toNat with _ | _
    · exfalso; apply h3; unfold badC; rw [List.any_eq_true]; exact ⟨b, hb, by rw [hk]; rfl⟩
    · rfl
  · unfold novw at h5
    have h6 : ¬ ∀ b ∈ L, (!vwB b.toNat) = true := by rw [← List.all_eq_true]; exact h5
    rw [List.any_eq_true]
    apply Classical.byContradiction
    intro hn
    apply h6
    intro b hb
    rcases hk : vwB b.toNat with _ | _
    · rfl
    · exfalso
      apply hn
      refine ⟨b, ?_, hk⟩
      unfold ltr
      rw [List.mem_filter]
      refine ⟨hb, ?_⟩
      rcases he : (b != 32) with _ | _
      · rw [bne_eq_false_iff_eq] at he
        subst he
        have : vwB (32 : UInt8).toNat = false := by decide
        rw [this] at hk; cases hk
      · rfl
theorem syl_seq (F : Fence) (n : Nat) (hF : ∀ f, F.fn f) (hro : F.round = none) (hroom : ∀ j, F.room j) (hwd : ∀ {m f args w R}, Calls Tryd.prog f args w R → CallsIn F m Tryd.prog f args w R) (hn : 2 ≤ n)
    (p : Nat) (s : ByteArray) (L : List UInt8) (hl : s.data.toList = L) (hc : chkE L = 0) (w : World) (hp : w.cell? ⟨p, 0, none⟩ = some (.string s)) (hM : ML w) :
    SeqO F n Tryd.prog 98 #[] #[.pointer (some ⟨p, 0, none⟩)] sylE (sylL L) w := by
  intro l J Jx W hb h0 hJ _ hY
  obtain ⟨h1, h2, h3⟩ := chk_ok hc
  exact syl_in F n hF hro hroom hwd hn l p s L hl (by rw [← size_len hl]; omega) J Jx W ((hb.cell (cell_lt hp)).trans hp) h2 h3 (hM.ext hb) h0 hJ hY
theorem syl_ne : ∀ (r h v t : List UInt8), syl r h v t ≠ []
  | [], h, v, t => by rw [syl_nil]; simp
  | c :: r, h, v, t => by
    unfold syl
    split
    · split
      · exact syl_ne r _ _ _
      · simp
    · split
      · exact syl_ne r _ _ _
      · exact syl_ne r _ _ _
theorem syl_len : ∀ (r h v t : List UInt8), (syl r h v t).length ≤ r.length + 1
  | [], h, v, t => by rw [syl_nil]; simp
  | c :: r, h, v, t => by
    unfold syl
    have a1 := syl_len r h [c] t
    have a2 := syl_len r (tlN false h v t) [c] []
    have a3 := syl_len r (h ++ [c]) v t
    have a4 := syl_len r h v (t ++ [c])
    split
    · split
      · simp; omega
      · simp; omega
    · split
      · simp; omega
      · simp; omega
theorem sylL_len {L : List UInt8} (h : chkE L = 0) : (sylL L).length ≤ 301 := by
  have h1 := syl_len (ltr L) [] [] []
  have h2 := ltr_le L
  have h3 := (chk_ok h).1
  unfold sylL; omega
def wgU (g : Bool) : UInt8 := if g then 103 else 108
theorem wgU_int (g : Bool) : ((wgU g).toNat : Int) = wgB g := by cases g <;> rfl
/-- the weights -/
def way (l : List Syl) : List UInt8 := l.map fun x => wgU x.2
def scnT (L : List UInt8) : List UInt8 := if chkE L = 0 then way (sylL L) else []
/-- what Scan keeps: w its start, b its box -/
structure ScI (w : World) (b A M : Nat) (l : List UInt8) (W : World) : Prop where
  low : Below w.heap.size w W
  row : ∃ v, Blk W b 113 #[v] ∧ OwnU W w.heap.size v l ∧ ∀ g, v.ownBlock = some g → M ≤ g
  lo : w.heap.size ≤ b
  hi : b < A
theorem ScI.out {w W W' : World} {b A M : Nat} {l : List UInt8} (h : ScI w b A M l W) (ho : OutK A M W W') : ScI w b A M l W' := by
  obtain ⟨v, h1, h2, h3⟩ := h.row
  have := h.lo
  have := h.hi
  exact ⟨ho.below h.low (by omega) (Nat.le_refl _), ⟨v, ho.blk h1 (by omega), ho.own h2 (fun g hg => by have := h3 g hg; omega), h3⟩, h.lo, h.hi⟩
theorem ScI.ext {w W W' : World} {b A M : Nat} {l : List UInt8} (h : ScI w b A M l W) (hb : Below W.heap.size W W') : ScI w b A M l W' := h.out (OutK.of_below hb)
theorem scan_ok (s : ByteArray) (L : List UInt8) (hl : s.data.toList = L) (w : World) (hs : s.size ≤ maxLen) (hM : ML w) (hc : chkE L = 0) :
    Calls Tryd.prog 33 #[.string s] w fun e w' => e = .returned (.tuple #[.string ⟨(way (sylL L)).toArray⟩, .int .i64 0]) ∧ Below w.heap.size w w' := by
  refine (callsIn_wide (n := 9)).1 ?_
  obtain ⟨F, hFw⟩ : ∃ F : Fence, F = Fence.wide := ⟨_, rfl⟩
  rw [← hFw]
  have hF : ∀ f, F.fn f := by rw [hFw]; exact fun _ => trivial
  have hro : F.round = none := by rw [hFw]; rfl
  have hroom : ∀ j, F.room j := by rw [hFw]; exact fun _ => room_wide _
  have hwd : ∀ {n f args w R}, Calls Tryd.prog f args w R → CallsIn F n Tryd.prog f args w R := by rw [hFw]; exact fun h => callsIn_wide.2 h
  clear hFw
  have HCK := hide (check_any s L hl w hs hM)
  rw [hc] at HCK
  have HC := hide hc
  have HLL := hide (sylL_len hc)
  have HSQ := hide (fun p W (hp : W.cell? ⟨p, 0, none⟩ = some (.string s)) (h : ML W) => syl_seq F (9 - 1) hF hro hroom hwd (by omega) p s L hl hc W hp h)
  have HM := hide hM
  clear hl hs hM hc
  refine callsIn_of_wp_marks Tryd.func33 rfl (hF _) ?_ hro
  simp only [Tryd.ntmps33, List.size_toArray, List.length_cons, List.length_nil, Nat.reduceAdd, Nat.reduceSub, Array.replicate_succ, Array.replicate_zero, List.push_toArray, List.append_toArray, List.nil_append, List.cons_append]
  gi_wp2_with fail
  (with_reducible refine (hwd HCK.out).mono ?_)
  rintro e w1 ⟨rfl, hb1⟩
  have HB1 := hide hb1
  clear hb1
  gi_wp2_with fail
  (with_reducible refine (hwd (syllables_any s _)).mono ?_)
  rintro e w2 ⟨rfl, rfl⟩
  (try dsimp only)
  (repeat (first | go_values | gi_guarded | gi_step | gi_upon))
  simp only [World.size_alloc]
  have hbw : Below w1.heap.size w1 ((w1.alloc (.cells #[.slice none 0 0] 113)).alloc (.cells #[.string s] 9)) := ((Below.refl _ _).alloc (Nat.le_refl _) _).alloc (by simp) _
  have kb : Blk ((w1.alloc (.cells #[.slice none 0 0] 113)).alloc (.cells #[.string s] 9)) w1.heap.size 113 #[.slice none 0 0] := (Blk.new w1 _ _).alloc _
  have ks : ((w1.alloc (.cells #[.slice none 0 0] 113)).alloc (.cells #[.string s] 9)).cell? ⟨w1.heap.size + 1, 0, none⟩ = some (.string s) := by
    have := cell_new (w1.alloc (.cells #[.slice none 0 0] 113)) #[.string s] 9 0
    rw [World.size_alloc] at this
    exact this
  have hsz : ((w1.alloc (.cells #[.slice none 0 0] 113)).alloc (.cells #[.string s] 9)).heap.size = w1.heap.size + 2 := by simp
  have hml := HM.out.ext (HB1.out.trans (hbw.mono HB1.out.size))
  have HB0 := hide (HB1.out.trans (hbw.mono HB1.out.size))
  obtain ⟨b, hb⟩ : ∃ b, w1.heap.size = b := ⟨_, rfl⟩
  have hlo : w.heap.size ≤ b := by rw [← hb]; exact HB1.out.size
  rw [hb] at kb ks hsz ⊢
  generalize ((w1.alloc (.cells #[.slice none 0 0] 113)).alloc (.cells #[.string s] 9)) = W0 at kb ks hsz hml HB0 ⊢
  have hst := HSQ.out (b + 1) W0 ks hml
  clear hbw hb HSQ HM HCK
  obtain ⟨A, hA⟩ : ∃ A, W0.heap.size = A := ⟨_, rfl⟩
  refine wpIn_rangeFunc_o hro (by omega) (gf := 98) (fs := #[]) (lb := #[.pointer (some ⟨b + 1, 0, none⟩)]) rfl (hF _) (enters_of Tryd.func98 (by kernel_rfl) rfl) hst (Below.refl _ _) (fun _ => rfl)
    (fun M pre W => ScI w b A M (way pre) W) (fun _ _ _ => False) ?hI0 ?hI (fun _ _ _ _ h _ => h)
    (fun M x a' W => ∃ g, a' = { tmps := #[.string s, undef, .string ⟨#[]⟩, .int .i64 0, .int .i64 0, .pointer (some ⟨b, 0, none⟩), .pointer (some ⟨g, 0, none⟩), .string s, .int .i64 0, .int .i64 0, .bool false, undef, .string s, .func (.func 98) #[] #[.pointer (some ⟨b + 1, 0, none⟩)], .agg #[.string ⟨x.1.toArray⟩, .int .u8 (wgB x.2)], undef, undef, undef, undef, undef, undef, undef], defers := [] } ∧ M ≤ g ∧ Blk W g 118 #[.string ⟨x.1.toArray⟩, .int .u8 ((wgU x.2).toNat : Int)])
    ?hAx ?hassign ?hbody ?hdone ?hstop
  case hI0 =>
    intro W1 h1 _
    exact ⟨HB0.out.trans (h1.mono HB0.out.size), ⟨_, kb.below h1 (by omega), OwnU.nil _ _, fun g hg => by cases hg⟩, hlo, by omega⟩
  case hI =>
    intro M pre W1 W2 h1 h2
    rw [hA] at h2
    exact h1.out h2
  case hAx =>
    rintro M x a' W1 W2 ⟨g, rfl, h1, h2⟩ ho
    exact ⟨g, rfl, h1, ho.blk h2 (by omega)⟩
  case hassign =>
    intro l M pre x W K hMW hI hK
    have HK := hide hK
    clear hK
    unfold sylE
    gi_wp2_with fail
    have hbn : Below W.heap.size W (W.alloc (.cells #[.string ⟨x.1.toArray⟩, .int .u8 (wgB x.2)] 118)) := (Below.refl _ _).alloc (Nat.le_refl _) _
    refine HK.out _ _ (KeepB.of_below hbn hMW) (hI.ext hbn) ⟨W.heap.size, rfl, hMW, ?_⟩
    rw [wgU_int]
    exact Blk.new W _ _
  case hbody =>
    rintro l M pre x a' W hM2 hMW hpre hI ⟨g, rfl, hg, hkg⟩
    obtain ⟨v, h1, h2, h3⟩ := hI.row
    obtain ⟨A1, c1, rfl⟩ := own_shape h2
    have hpl : pre.length ≤ 301 := by
      have := hpre.length_le
      simp at this
      have := HLL.out
      omega
    obtain ⟨v', w', hr, ho', hg', hv'⟩ := h2.push (wgU x.2) (by unfold way; rw [List.length_map]; omega) hI.low.size
    obtain ⟨A2, c2, rfl⟩ := own_shape ho'
    have hlen : (way pre ++ [wgU x.2]).length = (way pre).length + 1 := by simp
    rw [hlen] at ho' hr hv'
    clear hlen
    have hba : Below W.heap.size W (W.alloc (.cells #[.int .u8 ((wgU x.2).toNat : Int)] 5)) := (Below.refl _ _).alloc (Nat.le_refl _) _
    have hAb := hI.hi
    have hloB := hI.lo
    have hne : some b ≠ (Value.slice A1 (way pre).length c1).ownBlock := fun e => by
      have := h3 b e.symm
      omega
    have hkw : Blk w' b 113 #[.slice A1 (way pre).length c1] := (h1.ext hba).grown hg' hne
    have hsz1 : (W.alloc (.cells #[.int .u8 ((wgU x.2).toNat : Int)] 5)).heap.size = W.heap.size + 1 := by simp
    have hkk : KeepB A M W (w'.setCell ⟨b, 0, none⟩ (.slice A2 ((way pre).length + 1) c2)) := ((KeepB.of_below hba hMW).trans (KeepB.grown hg' (fun r e => by have := h3 r e; omega) (by omega))).trans (KeepB.set w' (by omega) 0 _)
    have hlow : Below w.heap.size w (w'.setCell ⟨b, 0, none⟩ (.slice A2 ((way pre).length + 1) c2)) := ((hI.low.trans (hba.mono hI.low.size)).trans ⟨hg'.os, hg'.tape, hg'.output, hg'.size, fun k hk => hg'.block k (by have := hI.low.size; omega) (fun e => by have := h3 k e.symm; omega)⟩).setCell hloB _
    have hIn : ScI w b A M (way (pre ++ [x])) (w'.setCell ⟨b, 0, none⟩ (.slice A2 ((way pre).length + 1) c2)) := by
      refine ⟨hlow, ⟨_, by simpa using hkw.set_ 0 (.slice A2 ((way pre).length + 1) c2), ?_, fun r e => ?_⟩, hloB, hAb⟩
      · have e1 : way (pre ++ [x]) = way pre ++ [wgU x.2] := by unfold way; simp
        rw [e1]
        exact ownsRow_setCell_other (a := ⟨b, 0, none⟩) ho' (own_blk_ne (g := b) ho' hkw (by decide)) _
      · rcases hv' with h5 | h5
        · rw [h5] at e
          exact h3 r e
        · rw [h5] at e
          injection e with e
          omega
    obtain ⟨c1l, c1c, c1f⟩ := blk1 h1
    obtain ⟨gl, g0, g1⟩ := bx2 hkg
    obtain ⟨bl, bc, bf⟩ := blk1 hkw
    have HR := hide hr
    have HKK := hide hkk
    have HIN := hide hIn
    clear hr ho' hg' hv' hba hne hkw hkk hlow hIn h1 h2 h3 hI hkg hpre hpl hst
    gi_wp2_with (gi_at_builtin; refine wpListIn_append_run hF rfl (.tmp 15) (.tmp 18) 113 rfl rfl rfl HR.out ?_)
    exact ⟨by rw [hA]; exact HKK.out, HIN.out⟩
  case hdone =>
    intro D M W hD hI hK
    obtain ⟨v, h1, h2, h3⟩ := hI.row
    have ht := h2.text (by unfold way; simp; exact syl_ne _ _ _ _)
    obtain ⟨e1, e2, e3⟩ := blk1 h1
    have hAb := hI.hi
    have hloB := hI.lo
    have hlow : Below w.heap.size w (W.putObj D (.deferred none)) := OutK.below hI.low (OutK.putObj W (a := A) (b := D + 1) (by omega) (by omega) _) (by omega) (Nat.le_refl _)
    have HLOW := hide hlow
    have HK := hide hK
    have HI := hide hI
    clear hlow hK hI h1 h2 h3 hst
    gi_wp2_with fail
    refine ⟨by simp, .inl ⟨_, _, rfl, run_takeDeferred HK.out, ?_⟩⟩
    exact ⟨.tuple #[.string ⟨(way (sylL L)).toArray⟩, .int .i64 0], by simp [results, Tryd.results33, go_sem], rfl, HLOW.out⟩
  case hstop =>
    intro D c pre W hD hSp h hK
    exact h.elim
end Go.Proofs.YtlkkkgpcjdemdaaDoor
/- Song: Split, walked. -/
namespace Go.Proofs.YtlkkkgpcjdemdaaDoor
open Go Go.RowKit Go.Shelf
attribute [local go_sem] Oper.semAt_some
set_option maxHeartbeats 8000000
set_option maxRecDepth 100000
theorem info_strS : (Tryd.prog.info? 9).map (fun i => (i.zero, i.size, i.bytes)) = some (some (.string noW), 1, 16) := by kernel_rfl
def strV (l : List Wd) : List Value := l.map .string
/-- an own list of words -/
def OwnW (W : World) (n0 : Nat) (v : Value) (l : List Wd) : Prop := W.ownsRow n0 9 1 v l.length (strV l)
theorem OwnW.nil (W : World) (n0 : Nat) : OwnW W n0 (.slice none 0 0) [] := ⟨rfl, .inl ⟨rfl, rfl⟩⟩
theorem OwnW.push {W : World} {base : Nat} {v : Value} {l : List Wd} (h : OwnW W base v l) (b : Wd) (hl : l.length ≤ 1000000) (hb : base ≤ W.heap.size) :
    ∃ v' w', (Builtin.append_ #[63, 63] 63 #[v, .slice (some ⟨W.heap.size, 0, none⟩) 1 1]).run Tryd.prog (W.alloc (.cells #[.string b] 9)) = .ok v' w' ∧ OwnW w' base v' (l ++ [b]) ∧
      (W.alloc (.cells #[.string b] 9)).grownBy w' v.ownBlock ∧ (v'.ownBlock = v.ownBlock ∨ v'.ownBlock = some (W.heap.size + 1)) := by
  obtain ⟨i0, hi, hz0, hz1, hz2⟩ := info_parts info_strS
  obtain ⟨v', w', hr, h2, h3, h4⟩ := own_push (P := Tryd.prog) 63 9 i0 _ 16 Tryd.underlying63 hi hz0 hz1 hz2 rfl h (.string b) rfl (by omega) (by unfold maxLen; omega) hb
  refine ⟨v', w', hr, ?_, h3, h4⟩
  unfold OwnW
  unfold strV at h2 ⊢
  rw [List.map_append, List.length_append]
  exact h2
/-- the texts of syllables -/
def txts (l : List Syl) : List Wd := l.map fun x => ⟨x.1.toArray⟩
/-- what Split keeps: w its start, b its box -/
structure SpI (w : World) (b A M : Nat) (l : List Wd) (W : World) : Prop where
  low : Below w.heap.size w W
  row : ∃ v, Blk W b 63 #[v] ∧ OwnW W w.heap.size v l ∧ ∀ g, v.ownBlock = some g → M ≤ g
  lo : w.heap.size ≤ b
  hi : b < A
theorem SpI.out {w W W' : World} {b A M : Nat} {l : List Wd} (h : SpI w b A M l W) (ho : OutK A M W W') : SpI w b A M l W' := by
  obtain ⟨v, h1, h2, h3⟩ := h.row
  have := h.lo
  have := h.hi
  exact ⟨ho.below h.low (by omega) (Nat.le_refl _), ⟨v, ho.blk h1 (by omega), ho.own h2 (fun g hg => by have := h3 g hg; omega), h3⟩, h.lo, h.hi⟩
theorem SpI.ext {w W W' : World} {b A M : Nat} {l : List Wd} (h : SpI w b A M l W) (hb : Below W.heap.size W W') : SpI w b A M l W' := h.out (OutK.of_below hb)
theorem split_ok (s : ByteArray) (L : List UInt8) (hl : s.data.toList = L) (w : World) (hs : s.size ≤ maxLen) (hM : ML w) (hc : chkE L = 0) :
    Calls Tryd.prog 32 #[.string s] w fun e w' => ∃ v, e = .returned (.tuple #[v, .int .i64 0]) ∧ OwnW w' w.heap.size v (txts (sylL L)) ∧ Below w.heap.size w w' := by
  refine (callsIn_wide (n := 9)).1 ?_
  obtain ⟨F, hFw⟩ : ∃ F : Fence, F = Fence.wide := ⟨_, rfl⟩
  rw [← hFw]
  have hF : ∀ f, F.fn f := by rw [hFw]; exact fun _ => trivial
  have hro : F.round = none := by rw [hFw]; rfl
  have hroom : ∀ j, F.room j := by rw [hFw]; exact fun _ => room_wide _
  have hwd : ∀ {n f args w R}, Calls Tryd.prog f args w R → CallsIn F n Tryd.prog f args w R := by rw [hFw]; exact fun h => callsIn_wide.2 h
  clear hFw
  have HCK := hide (check_any s L hl w hs hM)
  rw [hc] at HCK
  have HC := hide hc
  have HLL := hide (sylL_len hc)
  have HSQ := hide (fun p W (hp : W.cell? ⟨p, 0, none⟩ = some (.string s)) (h : ML W) => syl_seq F (9 - 1) hF hro hroom hwd (by omega) p s L hl hc W hp h)
  have HM := hide hM
  clear hl hs hM hc
  refine callsIn_of_wp_marks Tryd.func32 rfl (hF _) ?_ hro
  simp only [Tryd.ntmps32, List.size_toArray, List.length_cons, List.length_nil, Nat.reduceAdd, Nat.reduceSub, Array.replicate_succ, Array.replicate_zero, List.push_toArray, List.append_toArray, List.nil_append, List.cons_append]
  gi_wp2_with fail
  (with_reducible refine (hwd HCK.out).mono ?_)
  rintro e w1 ⟨rfl, hb1⟩
  have HB1 := hide hb1
  clear hb1
  gi_wp2_with fail
  (with_reducible refine (hwd (syllables_any s _)).mono ?_)
  rintro e w2 ⟨rfl, rfl⟩
  (try dsimp only)
  (repeat (first | go_values | gi_guarded | gi_step | gi_upon))
  simp only [World.size_alloc]
  have hbw : Below w1.heap.size w1 ((w1.alloc (.cells #[.slice none 0 0] 63)).alloc (.cells #[.string s] 9)) := ((Below.refl _ _).alloc (Nat.le_refl _) _).alloc (by simp) _
  have kb : Blk ((w1.alloc (.cells #[.slice none 0 0] 63)).alloc (.cells #[.string s] 9)) w1.heap.size 63 #[.slice none 0 0] := (Blk.new w1 _ _).alloc _
  have ks : ((w1.alloc (.cells #[.slice none 0 0] 63)).alloc (.cells #[.string s] 9)).cell? ⟨w1.heap.size + 1, 0, none⟩ = some (.string s) := by
    have := cell_new (w1.alloc (.cells #[.slice none 0 0] 63)) #[.string s] 9 0
    rw [World.size_alloc] at this
    exact this
  have hsz : ((w1.alloc (.cells #[.slice none 0 0] 63)).alloc (.cells #[.string s] 9)).heap.size = w1.heap.size + 2 := by simp
  have hml := HM.out.ext (HB1.out.trans (hbw.mono HB1.out.size))
  have HB0 := hide (HB1.out.trans (hbw.mono HB1.out.size))
  obtain ⟨b, hb⟩ : ∃ b, w1.heap.size = b := ⟨_, rfl⟩
  have hlo : w.heap.size ≤ b := by rw [← hb]; exact HB1.out.size
  rw [hb] at kb ks hsz ⊢
  generalize ((w1.alloc (.cells #[.slice none 0 0] 63)).alloc (.cells #[.string s] 9)) = W0 at kb ks hsz hml HB0 ⊢
  have hst := HSQ.out (b + 1) W0 ks hml
  clear hbw hb HSQ HM HCK
  obtain ⟨A, hA⟩ : ∃ A, W0.heap.size = A := ⟨_, rfl⟩
  refine wpIn_rangeFunc_o hro (by omega) (gf := 98) (fs := #[]) (lb := #[.pointer (some ⟨b + 1, 0, none⟩)]) rfl (hF _) (enters_of Tryd.func98 (by kernel_rfl) rfl) hst (Below.refl _ _) (fun _ => rfl)
    (fun M pre W => SpI w b A M (txts pre) W) (fun _ _ _ => False) ?hI0 ?hI (fun _ _ _ _ h _ => h)
    (fun M x a' W => ∃ g, a' = { tmps := #[.string s, undef, .slice none 0 0, .int .i64 0, .int .i64 0, .pointer (some ⟨b, 0, none⟩), .pointer (some ⟨g, 0, none⟩), .string s, .int .i64 0, .int .i64 0, .bool false, undef, .string s, .func (.func 98) #[] #[.pointer (some ⟨b + 1, 0, none⟩)], .agg #[.string ⟨x.1.toArray⟩, .int .u8 (wgB x.2)], undef, undef, undef, undef, undef, undef], defers := [] } ∧ M ≤ g ∧ Blk W g 118 #[.string ⟨x.1.toArray⟩, .int .u8 (wgB x.2)])
    ?hAx ?hassign ?hbody ?hdone ?hstop
  case hI0 =>
    intro W1 h1 _
    exact ⟨HB0.out.trans (h1.mono HB0.out.size), ⟨_, kb.below h1 (by omega), OwnW.nil _ _, fun g hg => by cases hg⟩, hlo, by omega⟩
  case hI =>
    intro M pre W1 W2 h1 h2
    rw [hA] at h2
    exact h1.out h2
  case hAx =>
    rintro M x a' W1 W2 ⟨g, rfl, h1, h2⟩ ho
    exact ⟨g, rfl, h1, ho.blk h2 (by omega)⟩
  case hassign =>
    intro l M pre x W K hMW hI hK
    have HK := hide hK
    clear hK
    unfold sylE
    gi_wp2_with fail
    have hbn : Below W.heap.size W (W.alloc (.cells #[.string ⟨x.1.toArray⟩, .int .u8 (wgB x.2)] 118)) := (Below.refl _ _).alloc (Nat.le_refl _) _
    refine HK.out _ _ (KeepB.of_below hbn hMW) (hI.ext hbn) ⟨W.heap.size, rfl, hMW, ?_⟩
    exact Blk.new W _ _
  case hbody =>
    rintro l M pre x a' W hM2 hMW hpre hI ⟨g, rfl, hg, hkg⟩
    obtain ⟨v, h1, h2, h3⟩ := hI.row
    obtain ⟨A1, c1, rfl⟩ := own_shape h2
    have hpl : pre.length ≤ 301 := by
      have := hpre.length_le
      simp at this
      have := HLL.out
      omega
    obtain ⟨v', w', hr, ho', hg', hv'⟩ := h2.push (⟨x.1.toArray⟩ : Wd) (by unfold txts; rw [List.length_map]; omega) hI.low.size
    obtain ⟨A2, c2, rfl⟩ := own_shape ho'
    have hlen : (txts pre ++ [(⟨x.1.toArray⟩ : Wd)]).length = (txts pre).length + 1 := by simp
    rw [hlen] at ho' hr hv'
    clear hlen
    have hba : Below W.heap.size W (W.alloc (.cells #[.string ⟨x.1.toArray⟩] 9)) := (Below.refl _ _).alloc (Nat.le_refl _) _
    have hAb := hI.hi
    have hloB := hI.lo
    have hne : some b ≠ (Value.slice A1 (txts pre).length c1).ownBlock := fun e => by
      have := h3 b e.symm
      omega
    have hkw : Blk w' b 63 #[.slice A1 (txts pre).length c1] := (h1.ext hba).grown hg' hne
    have hsz1 : (W.alloc (.cells #[.string ⟨x.1.toArray⟩] 9)).heap.size = W.heap.size + 1 := by simp
    have hkk : KeepB A M W (w'.setCell ⟨b, 0, none⟩ (.slice A2 ((txts pre).length + 1) c2)) := ((KeepB.of_below hba hMW).trans (KeepB.grown hg' (fun r e => by have := h3 r e; omega) (by omega))).trans (KeepB.set w' (by omega) 0 _)
    have hlow : Below w.heap.size w (w'.setCell ⟨b, 0, none⟩ (.slice A2 ((txts pre).length + 1) c2)) := ((hI.low.trans (hba.mono hI.low.size)).trans ⟨hg'.os, hg'.tape, hg'.output, hg'.size, fun k hk => hg'.block k (by have := hI.low.size; omega) (fun e => by have := h3 k e.symm; omega)⟩).setCell hloB _
    have hIn : SpI w b A M (txts (pre ++ [x])) (w'.setCell ⟨b, 0, none⟩ (.slice A2 ((txts pre).length + 1) c2)) := by
      refine ⟨hlow, ⟨_, by simpa using hkw.set_ 0 (.slice A2 ((txts pre).length + 1) c2), ?_, fun r e => ?_⟩, hloB, hAb⟩
      · have e1 : txts (pre ++ [x]) = txts pre ++ [(⟨x.1.toArray⟩ : Wd)] := by unfold txts; simp
        rw [e1]
        exact ownsRow_setCell_other (a := ⟨b, 0, none⟩) ho' (own_blk_ne (g := b) ho' hkw (by decide)) _
      · rcases hv' with h5 | h5
        · rw [h5] at e
          exact h3 r e
        · rw [h5] at e
          injection e with e
          omega
    obtain ⟨c1l, c1c, c1f⟩ := blk1 h1
    obtain ⟨gl, g0, g1⟩ := bx2 hkg
    obtain ⟨bl, bc, bf⟩ := blk1 hkw
    have HR := hide hr
    have HKK := hide hkk
    have HIN := hide hIn
    clear hr ho' hg' hv' hba hne hkw hkk hlow hIn h1 h2 h3 hI hkg hpre hpl hst
    gi_wp2_with (gi_at_builtin; refine wpListIn_append_run hF rfl (.tmp 15) (.tmp 18) 63 rfl rfl rfl HR.out ?_)
    exact ⟨by rw [hA]; exact HKK.out, HIN.out⟩
  case hdone =>
    intro D M W hD hI hK
    obtain ⟨v, h1, h2, h3⟩ := hI.row
    obtain ⟨A3, c3, rfl⟩ := own_shape h2
    obtain ⟨e1, e2, e3⟩ := blk1 h1
    have hAb := hI.hi
    have hloB := hI.lo
    have hlow : Below w.heap.size w (W.putObj D (.deferred none)) := OutK.below hI.low (OutK.putObj W (a := A) (b := D + 1) (by omega) (by omega) _) (by omega) (Nat.le_refl _)
    have how : OwnW (W.putObj D (.deferred none)) w.heap.size (.slice A3 (txts (sylL L)).length c3) (txts (sylL L)) := ownN h2 (grownBy_putObj' W D _) (fun r e => by cases e; exact ⟨_, hK, rfl⟩)
    have HLOW := hide hlow
    have HOW := hide how
    have HK := hide hK
    clear hlow how hK hI h1 h2 h3 hst
    gi_wp2_with fail
    refine ⟨by simp, .inl ⟨_, _, rfl, run_takeDeferred HK.out, ?_⟩⟩
    exact ⟨.tuple #[.slice A3 (txts (sylL L)).length c3, .int .i64 0], by simp [results, Tryd.results32, go_sem], _, rfl, HOW.out, HLOW.out⟩
  case hstop =>
    intro D c pre W hD hSp h hK
    exact h.elim
theorem scan_any (s : ByteArray) (L : List UInt8) (hl : s.data.toList = L) (w : World) (hs : s.size ≤ maxLen) (hM : ML w) :
    Calls Tryd.prog 33 #[.string s] w fun e w' => e = .returned (.tuple #[.string ⟨(scnT L).toArray⟩, .int .i64 (chkE L)]) ∧ Below w.heap.size w w' := by
  by_cases hc : chkE L = 0
  · unfold scnT
    rw [if_pos hc, hc]
    exact scan_ok s L hl w hs hM hc
  · have HCK := hide (check_any s L hl w hs hM)
    unfold scnT
    rw [if_neg hc]
    obtain ⟨E, hE⟩ : ∃ E, chkE L = E := ⟨_, rfl⟩
    rw [hE] at HCK hc ⊢
    clear hE hl hs hM
    go_enter Tryd.func33, Tryd.ntmps33
    go_wp2_with fail
    refine HCK.out.mono ?_
    rintro e w2 ⟨rfl, hb⟩
    go_wp2_with fail
    go_ret2
    exact ⟨rfl, hb⟩
/-- the syllables that Split returns -/
def splT (L : List UInt8) : List Wd := if chkE L = 0 then txts (sylL L) else []
def SplPost (L : List UInt8) (w : World) (e : Ending) (w' : World) : Prop := ∃ v, e = .returned (.tuple #[v, .int .i64 (chkE L)]) ∧ OwnW w' w.heap.size v (splT L) ∧ Below w.heap.size w w'
theorem split_any (s : ByteArray) (L : List UInt8) (hl : s.data.toList = L) (w : World) (hs : s.size ≤ maxLen) (hM : ML w) :
    Calls Tryd.prog 32 #[.string s] w (SplPost L w) := by
  unfold SplPost
  by_cases hc : chkE L = 0
  · unfold splT
    rw [if_pos hc, hc]
    exact split_ok s L hl w hs hM hc
  · have HCK := hide (check_any s L hl w hs hM)
    unfold splT
    rw [if_neg hc]
    obtain ⟨E, hE⟩ : ∃ E, chkE L = E := ⟨_, rfl⟩
    rw [hE] at HCK hc ⊢
    clear hE hl hs hM
    obtain ⟨R, hR⟩ : ∃ R : Ending → World → Prop, (fun e w' => ∃ v, e = Ending.returned (.tuple #[v, .int .i64 E]) ∧ OwnW w' w.heap.size v [] ∧ Below w.heap.size w w') = R := ⟨_, rfl⟩
    have HR : Hid (∀ w2, Below w.heap.size w w2 → R (.returned (.tuple #[.slice none 0 0, .int .i64 E])) w2) := hide (fun w2 hb => by rw [← hR]; exact ⟨_, rfl, OwnW.nil _ _, hb⟩)
    rw [hR]
    clear hR
    go_enter Tryd.func32, Tryd.ntmps32
    go_wp2_with fail
    refine HCK.out.mono ?_
    rintro e w2 ⟨rfl, hb⟩
    go_wp2_with fail
    exact HR.out _ hb
/-- units of weights -/
def unF (l : List UInt8) : Int := l.length + l.count 103
theorem units_any (s : ByteArray) (l : List UInt8) (hl : s.data.toList = l) (hs : s.size ≤ 1000000) (w : World) :
    Calls Tryd.prog 60 #[.string s] w fun e w' => e = .returned (.int .i64 (unF l)) ∧ w = w' := by
  have hlen := size_len hl
  have HC : Hid (∀ W, Calls Tryd.prog 103 #[.string s, .string ⟨#[103]⟩] W fun e w' => e = .returned (.int .i64 ((l.count 103 : Nat) : Int)) ∧ W = w') := hide (fun W => by
    refine (Any.strings_Count_one lays138 s 103 W).mono ?_
    rintro e w' ⟨rfl, rfl⟩
    rw [hl]
    exact ⟨rfl, rfl⟩)
  have hcn : l.count 103 ≤ l.length := List.count_le_length
  obtain ⟨n, hn⟩ : ∃ n, l.count 103 = n := ⟨_, rfl⟩
  unfold unF
  rw [hn, hlen]
  rw [hn] at HC hcn
  rw [hlen] at hcn
  clear hn hl hlen
  go_enter Tryd.func60, Tryd.ntmps60
  go_wp2_with fail
  refine (HC.out _).mono ?_
  rintro e w2 ⟨rfl, rfl⟩
  go_wp2_with fail
  go_ret
  exact ⟨rfl, rfl⟩
theorem way_len {L : List UInt8} : (scnT L).length ≤ 301 := by
  unfold scnT
  split
  · rename_i h
    have := sylL_len h
    unfold way; rw [List.length_map]; exact this
  · simp
theorem Units_any (s : ByteArray) (L : List UInt8) (hl : s.data.toList = L) (w : World) (hs : s.size ≤ maxLen) (hM : ML w) :
    Calls Tryd.prog 34 #[.string s] w fun e w' => e = .returned (.tuple #[.int .i64 ((scnT L).length : Int), .int .i64 (unF (scnT L)), .int .i64 (chkE L)]) ∧ Below w.heap.size w w' := by
  have HSC := hide (scan_any s L hl w hs hM)
  have hw := way_len (L := L)
  have HUN := hide (fun W => units_any ⟨(scnT L).toArray⟩ (scnT L) (by simp) (by rw [sizeA]; omega) W)
  have hz := sizeA (scnT L)
  obtain ⟨X, hX⟩ : ∃ X : ByteArray, (⟨(scnT L).toArray⟩ : ByteArray) = X := ⟨_, rfl⟩
  obtain ⟨U, hU⟩ : ∃ U, unF (scnT L) = U := ⟨_, rfl⟩
  obtain ⟨E, hE⟩ : ∃ E, chkE L = E := ⟨_, rfl⟩
  rw [hX] at HSC HUN hz
  rw [hU] at HUN ⊢
  rw [hE] at HSC ⊢
  rw [← hz] at hw ⊢
  clear hX hU hE hz hl hs hM
  go_enter Tryd.func34, Tryd.ntmps34
  go_wp2_with fail
  refine HSC.out.mono ?_
  rintro e w2 ⟨rfl, hb⟩
  go_wp2_with fail
  refine (HUN.out _).mono ?_
  rintro e w3 ⟨rfl, rfl⟩
  go_wp2_with fail
  go_ret3
  exact ⟨rfl, hb⟩
end Go.Proofs.YtlkkkgpcjdemdaaDoor
/- Song: portions: check, divisor, whole, walked. -/
namespace Go.Proofs.YtlkkkgpcjdemdaaDoor
open Go Go.RowKit Go.Shelf
set_option maxHeartbeats 2000000
set_option maxRecDepth 100000
/-- a list of portions that is read -/
def PoR (w : World) (B : Nat) (A : Option Addr) (l : List (Int × Int)) : Prop := PI w B A l.length (fun k => (l.getD k (0, 0)).1) (fun k => (l.getD k (0, 0)).2)
theorem PoR.below {w w' : World} {B B' : Nat} {A : Option Addr} {l : List (Int × Int)} (h : PoR w B A l) (hb : Below B' w w') (hB : B ≤ B') : PoR w' B A l := P2.below h hb hB
theorem PoR.more {w : World} {B B' : Nat} {A : Option Addr} {l : List (Int × Int)} (h : PoR w B A l) (hB : B ≤ B') : PoR w B' A l := P2.more h hB
def poB (x : Int × Int) : Bool := decide (1 ≤ x.1) && (decide (x.1 ≤ x.2) && decide (x.2 ≤ 1000000))
theorem poB_iff {x : Int × Int} : poB x = true ↔ 1 ≤ x.1 ∧ x.1 ≤ x.2 ∧ x.2 ≤ 1000000 := by unfold poB; simp
theorem badPo_any (x : Int × Int) (w : World) : Calls Tryd.prog 84 #[.agg #[.int .i64 x.1, .int .i64 x.2]] w fun e w' => e = .returned (.bool (!poB x)) ∧ Below w.heap.size w w' := by
  obtain ⟨a, b⟩ := x
  dsimp only
  rcases hp : poB (a, b) with _ | _
  · have hn : ¬ (1 ≤ a ∧ a ≤ b ∧ b ≤ 1000000) := fun h => by rw [poB_iff.2 h] at hp; cases hp
    clear hp
    by_cases h1 : a < 1
    · go_enter Tryd.func84, Tryd.ntmps84
      go_wp2_with fail
      go_ret
      exact ⟨rfl, (Below.refl _ _).alloc (Nat.le_refl _) _⟩
    · by_cases h2 : b < a
      · go_enter Tryd.func84, Tryd.ntmps84
        go_wp2_with fail
        go_ret
        exact ⟨rfl, (Below.refl _ _).alloc (Nat.le_refl _) _⟩
      · have h3 : 1000000 < b := by omega
        go_enter Tryd.func84, Tryd.ntmps84
        go_wp2_with fail
        go_ret
        exact ⟨rfl, (Below.refl _ _).alloc (Nat.le_refl _) _⟩
  · obtain ⟨h1, h2, h3⟩ := poB_iff.1 hp
    dsimp only at h1 h2 h3
    have h1' : ¬ a < 1 := by omega
    have h2' : ¬ b < a := by omega
    have h3' : ¬ 1000000 < b := by omega
    clear hp
    go_enter Tryd.func84, Tryd.ntmps84
    go_wp2_with fail
    go_ret
    exact ⟨rfl, (Below.refl _ _).alloc (Nat.le_refl _) _⟩
theorem indexPo_any (A : Option Addr) (c : Nat) (l : List (Int × Int)) (w : World) (hn : l.length ≤ maxLen) (hR : PoR w w.heap.size A l) :
    Calls Tryd.prog 113 #[.slice A l.length c, .func (.func 84) #[] #[]] w fun e w' => e = .returned (.int .i64 (idx (fun k => !poB (l.getD k (0, 0))) l.length)) ∧ Below w.heap.size w w' := by
  unfold maxLen at hn
  have eg : ∀ args w, (callFunc 84 args).run Tryd.prog w = .ok (.enter 84 args) w := enters_of Tryd.func84 (by kernel_rfl) rfl
  have HP := hide (fun W k => badPo_any (l.getD k (0, 0)) W)
  obtain ⟨n, hln⟩ : ∃ n, l.length = n := ⟨_, rfl⟩
  have HR := hide (fun W (h : Below w.heap.size w W) => hR.below h (Nat.le_refl _))
  have HLN := hide hln
  obtain ⟨p, hp⟩ : ∃ p : Nat → Bool, (fun k => !poB (l.getD k (0, 0))) = p := ⟨_, rfl⟩
  have HPP := hide (fun k => congrFun hp k)
  rw [hp, hln]
  rw [hln] at hn
  clear hln hp hR
  go_enter Tryd.func113, Tryd.ntmps113
  go_wp2
  go_loopw [8] (fun i wr => ∃ k : Nat, k ≤ n ∧ i = .int .i64 k ∧ Hid (idx p k = -1) ∧ Below w.heap.size w wr) (fun i _ => n - (intOf i).toNat)
  case atStart => exact ⟨0, Nat.zero_le _, rfl, hide rfl, Below.refl _ _⟩
  case round =>
    obtain ⟨k, hk, rfl, HX, hB⟩ := hrel
    by_cases hlt : k < n
    · obtain ⟨b, off, rfl, hb, c1, c2⟩ := PI.at_ (HR.out _ hB) (k := k) (by rw [HLN.out]; exact hlt)
      have H := HP.out wr k
      rw [HPP.out k] at H
      obtain ⟨x, hx⟩ : ∃ x, l.getD k (0, 0) = x := ⟨_, rfl⟩
      rw [hx] at H c1 c2
      have H' := hide H
      clear H hx
      cases hpk : p k with
      | true =>
        have hpk' := hide hpk
        rw [hpk] at H'
        clear hpk
        go_wp2_with ((with_reducible refine H'.out.mono ?_); rintro e w' ⟨rfl, hb1⟩)
        go_ret
        refine ⟨ret_int ?_, hB.trans (hb1.mono hB.size)⟩
        rw [idx_stable p (k+1) n (by simp [idx, HX.out, hpk'.out]) (by omega)]
        simp [idx, HX.out, hpk'.out]
      | false =>
        have hpk' := hide hpk
        rw [hpk] at H'
        clear hpk
        go_wp2_with ((with_reducible refine H'.out.mono ?_); rintro e w' ⟨rfl, hb1⟩)
        go_roundw
        case rel => exact ⟨k + 1, by omega, by go_num, hide (by simp [idx, HX.out, hpk'.out]), hB.trans (hb1.mono hB.size)⟩
        case measure => simp [intOf]; omega
    · obtain rfl : k = n := by omega
      go_wp2
      go_ret
      exact ⟨ret_int HX.out.symm, hB⟩
theorem anyPo (l : List (Int × Int)) : anyTo (fun k => !poB (l.getD k (0, 0))) l.length = !l.all poB := by
  rw [Bool.eq_iff_iff, anyTo_iff]
  constructor
  · rintro ⟨k, hk, h⟩
    rw [Bool.not_eq_true', ← Bool.not_eq_true]
    intro e
    have := List.all_eq_true.1 e (l.getD k (0, 0)) (by rw [List.getD_eq_getElem?_getD, List.getElem?_eq_getElem hk]; exact List.getElem_mem hk)
    rw [this] at h; cases h
  · intro h
    rw [Bool.not_eq_true', ← Bool.not_eq_true] at h
    apply Classical.byContradiction
    intro hn
    apply h
    rw [List.all_eq_true]
    intro x hx
    obtain ⟨k, hk, rfl⟩ := List.getElem_of_mem hx
    rcases hb : poB l[k] with _ | _
    · exact absurd ⟨k, hk, by rw [List.getD_eq_getElem?_getD, List.getElem?_eq_getElem hk]; show (!poB l[k]) = true; rw [hb]; rfl⟩ hn
    · rfl
theorem containsPo_any (A : Option Addr) (c : Nat) (l : List (Int × Int)) (w : World) (hn : l.length ≤ maxLen) (hR : PoR w w.heap.size A l) :
    Calls Tryd.prog 83 #[.slice A l.length c, .func (.func 84) #[] #[]] w fun e w' => e = .returned (.bool (!l.all poB)) ∧ Below w.heap.size w w' := by
  have H := hide (indexPo_any A c l w hn hR)
  have e := idx_any (fun k => !poB (l.getD k (0, 0))) l.length
  rw [anyPo] at e
  have HE := hide e
  clear hR hn e
  generalize idx (fun k => !poB (l.getD k (0, 0))) l.length = i at H HE
  generalize l.all poB = b at HE ⊢
  generalize l.length = n at H ⊢
  go_enter Tryd.func83, Tryd.ntmps83
  go_wp2_with ((with_reducible refine H.out.mono ?_); rintro e w' ⟨rfl, hb1⟩)
  go_ret
  exact ⟨ret_bool HE.out, hb1⟩
/-- the error of portions -/
def poE (l : List (Int × Int)) : Int := if 20 < l.length then 5 else if l.all poB = true then 0 else 2
theorem checkPo_any (A : Option Addr) (c : Nat) (l : List (Int × Int)) (w : World) (hn : l.length ≤ maxLen) (hR : PoR w w.heap.size A l) :
    Calls Tryd.prog 51 #[.slice A l.length c] w fun e w' => e = .returned (.int .i64 (poE l)) ∧ Below w.heap.size w w' := by
  have H := hide (containsPo_any A c l w hn hR)
  unfold poE
  unfold maxLen at hn
  generalize l.all poB = b at H ⊢
  clear hR
  generalize l.length = n at H hn ⊢
  by_cases h : 20 < n
  · rw [if_pos h]
    have h' : (20 : Int) < (n : Int) := by omega
    go_enter Tryd.func51, Tryd.ntmps51
    go_wp2_with fail
    go_ret
    exact ⟨rfl, Below.refl _ _⟩
  · rw [if_neg h]
    have h' : ¬ (20 : Int) < (n : Int) := by omega
    rcases b with _ | _
    · rw [if_neg Bool.false_ne_true]
      go_enter Tryd.func51, Tryd.ntmps51
      go_wp2_with fail
      refine H.out.mono ?_
      rintro e w2 ⟨rfl, hb⟩
      go_wp2_with fail
      go_ret
      exact ⟨rfl, hb⟩
    · rw [if_pos rfl]
      go_enter Tryd.func51, Tryd.ntmps51
      go_wp2_with fail
      refine H.out.mono ?_
      rintro e w2 ⟨rfl, hb⟩
      go_wp2_with fail
      go_ret
      exact ⟨rfl, hb⟩
end Go.Proofs.YtlkkkgpcjdemdaaDoor
