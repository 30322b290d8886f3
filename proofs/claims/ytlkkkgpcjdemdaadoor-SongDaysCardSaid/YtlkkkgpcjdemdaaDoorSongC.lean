/- Song: the iterator over what may stand next as a range's; what a count leaves behind. -/
import Derived.Test.YtlkkkgpcjdemdaaDoorSongB
import Derived.RangeFuncLeaves
import Derived.Maps.AppendAt
import Derived.RangeFuncBox
import Derived.Laws.IdiomStrings
import Derived.Deep.CutBlock
import Derived.Deep.DeepCutAuto
set_option linter.unusedSimpArgs false
set_option linter.unusedVariables false
set_option linter.unnecessarySimpa false
namespace Go.Proofs.YtlkkkgpcjdemdaaDoor
open Go Go.RowKit Go.Shelf
attribute [local go_sem] Oper.semAt_some
set_option maxHeartbeats 8000000
set_option maxRecDepth 100000
theorem nx_seq (F : Fence) (n : Nat) (hF : ∀ f, F.fn f) (hro : F.round = none) (hroom : ∀ j, F.room j) (hn : 2 ≤ n)
    (pa pf fb i : Nat) (left : Int) (s : ByteArray) (c : UInt8) (hi : i < s.size) (hs : s.size ≤ 60) (hc : s[i]'hi = c) (hl : LfOk left) (w : World) :
    SeqZ F n Tryd.prog 106 #[] #[.pointer (some ⟨pa, 0, none⟩), .pointer (some ⟨pf, 0, none⟩)] (nxE i) (nxW c left 2) (NxZ pa pf fb i left s) w := by
  intro l J Jx W _ hZ h0 hJ _ hY
  exact nx_in F n hF hro hroom hn pa pf fb i left s c hi hs hc hl l J Jx W hZ h0 hJ hY
theorem next_any (fb i : Nat) (left : Int) (w : World) :
    Calls Tryd.prog 71 #[.pointer (some ⟨fb, 0, none⟩), .agg #[.int .i64 (i : Nat), .int .i64 left]] w fun e w' =>
      e = .returned (.func (.func 106) #[] #[.pointer (some ⟨w.heap.size + 1, 0, none⟩), .pointer (some ⟨w.heap.size, 0, none⟩)]) ∧
      (w.alloc (.cells #[.pointer (some ⟨fb, 0, none⟩)] 125)).alloc (.cells #[.int .i64 (i : Nat), .int .i64 left] 127) = w' := by
  go_enter Tryd.func71, Tryd.ntmps71
  go_wp2_with fail
  go_ret
  exact ⟨by simp, rfl⟩
theorem sgr_trans {a b c : World} {p : Nat} (h : a.grownBy b (some p)) (k : b.grownBy c (some p)) : a.grownBy c (some p) :=
  ⟨k.os.trans h.os, k.tape.trans h.tape, k.output.trans h.output, Nat.le_trans h.size k.size, fun i hi e => (k.block i (Nat.lt_of_lt_of_le hi h.size) e).trans (h.block i hi e)⟩
theorem sgr_below {a b : World} (h : Below a.heap.size a b) (p : Nat) : a.grownBy b (some p) := ⟨h.os, h.tape, h.output, h.size, fun i hi _ => h.block i hi⟩
theorem sgr_more {w W W' : World} {p : Nat} {row : Option Nat} (h : w.grownBy W (some p)) (hg : W.grownBy W' row) (hr : ∀ r, row = some r → w.heap.size ≤ r) : w.grownBy W' (some p) :=
  ⟨hg.os.trans h.os, hg.tape.trans h.tape, hg.output.trans h.output, Nat.le_trans h.size hg.size, fun i hi e => (hg.block i (Nat.lt_of_lt_of_le hi h.size) (fun e2 => by have := hr i e2.symm; omega)).trans (h.block i hi e)⟩
/-- what is counted of a place from the weights on that may stand there -/
def smN (r : List UInt8) (l : List (UInt8 × Int)) : Nat := (l.map fun x => ctW r x.2).sum
theorem smN_app (r : List UInt8) (l : List (UInt8 × Int)) (x : UInt8 × Int) : smN r (l ++ [x]) = smN r l + ctW r x.2 := by simp [smN]
theorem smN_all (c : UInt8) (r : List UInt8) (left : Int) : smN r (nxW c left 2) = ctW (c :: r) left := by
  have e : nxW c left 2 = (if okW c 103 left 2 then [(103, lfW left 2)] else []) ++ (if okW c 108 left 1 then [(108, lfW left 1)] else []) := rfl
  have e2 : ctW (c :: r) left = (if okW c 103 left 2 then ctW r (lfW left 2) else 0) + (if okW c 108 left 1 then ctW r (lfW left 1) else 0) := rfl
  rw [e, e2]
  unfold smN
  cases okW c 103 left 2 <;> cases okW c 108 left 1 <;> simp
theorem smN_le {r : List UInt8} {l L : List (UInt8 × Int)} (h : l <+: L) : smN r l ≤ smN r L := by
  obtain ⟨t, rfl⟩ := h
  simp [smN]
theorem nx_mem {c : UInt8} {left : Int} {x : UInt8 × Int} (hl : LfOk left) (h : x ∈ nxW c left 2) : LfOk x.2 := by
  have hk : ∀ w d, okW c w left d = true → left < 0 ∨ d ≤ left := fun w d h => by
    unfold okW at h
    obtain ⟨-, h⟩ := (Bool.and_eq_true _ _).mp h
    rw [Bool.or_eq_true, decide_eq_true_iff, decide_eq_true_iff] at h
    exact h
  have h : x ∈ (if okW c 103 left 2 then [((103 : UInt8), lfW left 2)] else []) ++ (if okW c 108 left 1 then [((108 : UInt8), lfW left 1)] else []) := h
  rcases List.mem_append.1 h with h | h
  · split at h
    · rename_i h1
      rw [List.mem_singleton] at h
      subst h
      exact hl.next (by omega) (hk _ _ h1)
    · cases h
  · split at h
    · rename_i h1
      rw [List.mem_singleton] at h
      subst h
      exact hl.next (by omega) (hk _ _ h1)
    · cases h
theorem sdrop_at {p : List UInt8} {i : Nat} {c : UInt8} (h : i < p.length) (hc : p[i] = c) : p.drop i = c :: p.drop (i + 1) := by
  rw [List.drop_eq_getElem_cons h, hc]
/-- a filler as it lies, with what it knows -/
structure FlR (w : World) (fb mp : Nat) (s : ByteArray) (u : Int) (p : List UInt8) : Prop where
  blk : Blk w fb 162 #[.string s, .int .i64 u, .map (some mp)]
  pm : PmAt w mp p
theorem FlR.ext {w w' : World} {fb mp : Nat} {s : ByteArray} {u : Int} {p : List UInt8} (h : FlR w fb mp s u p) (hb : Below w.heap.size w w') : FlR w' fb mp s u p := ⟨h.blk.ext hb, h.pm.ext hb⟩
theorem FlR.ne {w : World} {fb mp : Nat} {s : ByteArray} {u : Int} {p : List UInt8} (h : FlR w fb mp s u p) : fb ≠ mp := by
  intro e
  obtain ⟨o, ho, hc⟩ := h.pm.map
  have := h.blk
  rw [e] at this
  unfold Blk at this
  rw [this] at ho
  injection ho with ho
  subst ho
  cases hc
theorem FlR.turn {w w' : World} {fb mp : Nat} {s : ByteArray} {u : Int} {p : List UInt8} (h : FlR w fb mp s u p) (hg : w.grownBy w' (some mp)) (hf : PmAt w' mp p) : FlR w' fb mp s u p :=
  ⟨h.blk.grown hg (fun e => by injection e with e; exact h.ne e), hf⟩
/-- the deferred closure of count -/
theorem known_d (F : Fence) (n : Nat) (hF : ∀ f, F.fn f) (hro : F.round = none) (m : FrameMode) (w : World) (b4 b2 b3 fb mp i v : Nat) (left : Int) (p : List UInt8) (hx : PlOk p (i, left)) (hM : PmAt w mp p) (hv : plW p (i, left) = v)
    (hs : (w.cell? ⟨b2, 0, none⟩ = some (.pointer (some ⟨fb, 0, none⟩)) ∧ w.cell? ⟨fb, 2, none⟩ = some (.map (some mp)) ∧ (w.cell? ⟨b3, 0, none⟩ = some (.int .i64 (i : Nat)) ∧ w.cell? ⟨b3, 1, none⟩ = some (.int .i64 left)) ∧ w.cell? ⟨b4, 0, none⟩ = some (.int .i64 (v : Nat)))) :
    CallsDIn F n Tryd.prog 105 #[.pointer (some ⟨b4, 0, none⟩), .pointer (some ⟨b2, 0, none⟩), .pointer (some ⟨b3, 0, none⟩)] m w fun e m' w' => m' = m ∧ e = .returned (.tuple #[]) ∧ PmAt w' mp p ∧ w.grownBy w' (some mp) := by
  refine callsDIn_of_wp Tryd.func105 rfl (hF _) ?_ hro
  simp only [Tryd.ntmps105, List.size_toArray, List.length_cons, List.length_nil, Nat.reduceAdd, Nat.reduceSub, Array.replicate_succ, Array.replicate_zero, List.push_toArray, List.append_toArray, List.nil_append, List.cons_append]
  have hb := (Below.refl w.heap.size w).drew
  obtain ⟨w', hrun, hp', hg⟩ := pm_put (hM.ext hb) hx
  rw [hv] at hrun
  have HRUN := hide hrun
  have HS : Hid (w.drew.cell? ⟨b2, 0, none⟩ = some (.pointer (some ⟨fb, 0, none⟩)) ∧ w.drew.cell? ⟨fb, 2, none⟩ = some (.map (some mp)) ∧ (w.drew.cell? ⟨b3, 0, none⟩ = some (.int .i64 (i : Nat)) ∧ w.drew.cell? ⟨b3, 1, none⟩ = some (.int .i64 left)) ∧ w.drew.cell? ⟨b4, 0, none⟩ = some (.int .i64 (v : Nat))) := hide (by
    obtain ⟨a1, a2, ⟨a3, a4⟩, a5⟩ := hs
    exact ⟨(hb.cell (cell_lt a1)).trans a1, (hb.cell (cell_lt a2)).trans a2, ⟨(hb.cell (cell_lt a3)).trans a3, (hb.cell (cell_lt a4)).trans a4⟩, (hb.cell (cell_lt a5)).trans a5⟩)
  have HP := hide hp'
  have HG : Hid (w.grownBy w' (some mp)) := hide (sgr_trans (sgr_below hb mp) hg)
  clear hb hp' hg hrun hs hM hv hx
  gi_wp2_with fail
  refine wpIn_on ?_
  refine wpIn_region_J (fun W : World => (W.cell? ⟨b2, 0, none⟩ = some (.pointer (some ⟨fb, 0, none⟩)) ∧ W.cell? ⟨fb, 2, none⟩ = some (.map (some mp)) ∧ (W.cell? ⟨b3, 0, none⟩ = some (.int .i64 (i : Nat)) ∧ W.cell? ⟨b3, 1, none⟩ = some (.int .i64 left)) ∧ W.cell? ⟨b4, 0, none⟩ = some (.int .i64 (v : Nat)))) (by kernel_rfl) ?_
  generalize w.drew = wd at HRUN HS ⊢
  refine tk_start [0, 1, 2, 3, 4, 5] ?_
  iterate 6
    refine tk_one (v := ?_) (by first | exact hF | exact wideFn) HS.out rfl (by kernel_rfl) (by kernel_rfl) (by kernel_rfl) (by kernel_rfl) rfl ?_ (by first | exact fun _ _ _ h => h | exact fun _ _ _ h => hQ2 _ _ _ _ _ h) ?_
    rotate_left
    · intro W hSW
      simp only [List.getElem_toArray, List.getElem_cons_zero, List.getElem_cons_succ]
      (try dsimp only at hSW)
      go_simp
      with_reducible rfl
    (try simp only [List.getElem_toArray, List.getElem_cons_zero, List.getElem_cons_succ, Act.put, List.setIfInBounds_toArray, List.set_cons_zero, List.set_cons_succ])
  refine tk_end ?_
  have hrun := HRUN.out
  unfold plV at hrun
  refine wpAnyJ_one 6 rfl (by kernel_rfl) (fun K hK => ?_)
  simp only [List.getElem_toArray, List.getElem_cons_zero, List.getElem_cons_succ]
  go_simp
  refine hK.out _ _ (fun h => absurd h (by rw [show lastOp _ _ _ = true from by kernel_rfl]; simp)) ?_
  clear hK K
  (try simp only [List.getElem_toArray, List.getElem_cons_zero, List.getElem_cons_succ, Act.put, List.setIfInBounds_toArray, List.set_cons_zero, List.set_cons_succ])
  refine wpAnyJ_done (by kernel_rfl) ?_
  dsimp only [OnlyNormal]
  gi_wp2_with fail
  go_end0
  exact ⟨rfl, HP.out, HG.out⟩
end Go.Proofs.YtlkkkgpcjdemdaaDoor
/- Song: in how many ways the rest of a line can be filled (count), walked. -/
namespace Go.Proofs.YtlkkkgpcjdemdaaDoor
open List renaming getElem_toArray → glA, getElem_cons_zero → glB, getElem_cons_succ → glC, setIfInBounds_toArray → glD, set_cons_zero → glE, set_cons_succ → glF
open Go Go.RowKit Go.Shelf
attribute [local go_sem] Oper.semAt_some
set_option maxHeartbeats 8000000
set_option maxRecDepth 100000
def CtPost (w : World) (fb mp : Nat) (s : ByteArray) (u : Int) (p : List UInt8) (x : Nat × Int) (e : Ending) (w' : World) : Prop :=
  e = .returned (.int .i64 (plW p x : Nat)) ∧ FlR w' fb mp s u p ∧ w.grownBy w' (some mp)
/-- what the call keeps: g its pointer, g + 1 its place, g + 2 its sum -/
structure CtS (w W : World) (mp : Nat) (p : List UInt8) (g fb i : Nat) (left : Int) (v : Nat) : Prop where
  gb : w.grownBy W (some mp)
  pm : PmAt W mp p
  k2 : Blk W g 125 #[.pointer (some ⟨fb, 0, none⟩)]
  k3 : Blk W (g + 1) 127 #[.int .i64 (i : Nat), .int .i64 left]
  k4 : Blk W (g + 2) 3 #[.int .i64 (v : Nat)]
variable {w W W' : World} {mp : Nat} {p : List UInt8} {g fb i : Nat} {left : Int} {v : Nat}
theorem CtS.ext (h : CtS w W mp p g fb i left v) (hb : Below W.heap.size W W') : CtS w W' mp p g fb i left v :=
  ⟨sgr_more h.gb (grown_no' hb) (fun r e => by cases e), h.pm.ext hb, h.k2.ext hb, h.k3.ext hb, h.k4.ext hb⟩
theorem CtS.turn (h : CtS w W mp p g fb i left v) (hg : W.grownBy W' (some mp)) (hf : PmAt W' mp p) (hm : mp < g) : CtS w W' mp p g fb i left v :=
  ⟨sgr_trans h.gb hg, hf, h.k2.grown hg (fun e => by injection e with e; omega), h.k3.grown hg (fun e => by injection e with e; omega), h.k4.grown hg (fun e => by injection e with e; omega)⟩
theorem CtS.out (h : CtS w W mp p g fb i left v) {a b : Nat} (ho : OutK a b W W') (ha : w.heap.size ≤ a) (hm : mp < a) (hg : g + 2 < a) : CtS w W' mp p g fb i left v :=
  ⟨⟨ho.os.trans h.gb.os, ho.tape.trans h.gb.tape, ho.output.trans h.gb.output, Nat.le_trans h.gb.size ho.size, fun k hk e => (ho.block k (Nat.lt_of_lt_of_le hk h.gb.size) (by omega)).trans (h.gb.block k hk e)⟩,
    h.pm.same (ho.block mp h.pm.lt (by omega)), ho.blk h.k2 (by omega), ho.blk h.k3 (by omega), ho.blk h.k4 (by omega)⟩
theorem CtS.set (h : CtS w W mp p g fb i left v) (hw : w.heap.size ≤ g) (hm : mp < g) (v' : Nat) : CtS w (W.setCell ⟨g + 2, 0, none⟩ (.int .i64 (v' : Nat))) mp p g fb i left v' :=
  have hg := grownBy_setCell' W (g + 2) (.int .i64 (v' : Nat))
  ⟨sgr_more h.gb hg (fun r e => by cases e; omega), h.pm.kept hg (fun e => by injection e with e; omega), h.k2.far (p := ⟨g + 2, 0, none⟩) (fun e => by dsimp only at e; omega) _, h.k3.far (p := ⟨g + 2, 0, none⟩) (fun e => by dsimp only at e; omega) _, by simpa using h.k4.set_ 0 (.int .i64 (v' : Nat))⟩
theorem count_any (fb mp : Nat) (s : ByteArray) (u : Int) (p : List UInt8) (hp : s.data.toList = p) : ∀ (k : Nat) (x : Nat × Int) (w : World), p.length - x.1 < k → PlOk p x → FlR w fb mp s u p →
    Calls Tryd.prog 70 #[.pointer (some ⟨fb, 0, none⟩), plV x] w (CtPost w fb mp s u p x) := by
  intro k
  induction k with
  | zero => intro x w h; omega
  | succ k ih =>
  intro x w hk hx hf0
  have HIH := hide ih
  have HX := hide hx
  have HK := hide hk
  have HF0 := hide hf0
  have HLK := hide (fun W (h : PmAt W mp p) => pm_look h hx)
  have hlen : p.length = s.size := by rw [← hp]; exact (size_len rfl).symm
  obtain ⟨i, left⟩ := x
  obtain ⟨v, hv⟩ : ∃ y, plW p (i, left) = y := ⟨_, rfl⟩
  have HV := hide hv
  have hn60 := hx.n
  have hil := hx.i
  have hlf := hx.l
  dsimp only at hil hlf
  have hvb : v ≤ 1152921504606846976 := by rw [← hv]; exact plW_bd hn60 _
  unfold CtPost
  rw [hv]
  unfold plV at HLK ⊢
  dsimp only at HLK ⊢
  refine (callsIn_wide (n := 9)).1 ?_
  obtain ⟨F, hFw⟩ : ∃ F : Fence, F = Fence.wide := ⟨_, rfl⟩
  rw [← hFw]
  have hF : ∀ f, F.fn f := by rw [hFw]; exact fun _ => trivial
  have hro : F.round = none := by rw [hFw]; rfl
  have hroom : ∀ j, F.room j := by rw [hFw]; exact fun _ => room_wide _
  have hwd : ∀ {n f args w R}, Calls Tryd.prog f args w R → CallsIn F n Tryd.prog f args w R := by rw [hFw]; exact fun h => callsIn_wide.2 h
  clear hFw
  have HMP : Hid (mp < w.heap.size) := hide hf0.pm.lt
  have HFB : Hid (fb < w.heap.size) := hide hf0.blk.lt
  obtain ⟨g, hg⟩ : ∃ x, w.heap.size = x := ⟨_, rfl⟩
  have HG : Hid (w.heap.size = g) := hide hg
  have HB1 : Hid (Below w.heap.size w (((w.alloc (.cells #[.pointer (some ⟨fb, 0, none⟩)] 125)).alloc (.cells #[.int .i64 (i : Nat), .int .i64 left] 127)).alloc (.cells #[.int .i64 0] 3))) := hide ((((Below.refl _ _).alloc (Nat.le_refl _) _).alloc (by simp) _).alloc (by simp; omega) _)
  have HS1 : Hid (CtS w (((w.alloc (.cells #[.pointer (some ⟨fb, 0, none⟩)] 125)).alloc (.cells #[.int .i64 (i : Nat), .int .i64 left] 127)).alloc (.cells #[.int .i64 0] 3)) mp p g fb i left 0) := hide ⟨sgr_below HB1.out mp, (hf0.ext HB1.out).pm, by
      rw [← hg]; exact ((Blk.new w _ _).alloc _).alloc _, by
      rw [← hg]
      have := (Blk.new (w.alloc (.cells #[.pointer (some ⟨fb, 0, none⟩)] 125)) 127 #[.int .i64 (i : Nat), .int .i64 left]).alloc (.cells #[.int .i64 0] 3)
      rwa [World.size_alloc] at this, by
      rw [← hg]
      have := Blk.new ((w.alloc (.cells #[.pointer (some ⟨fb, 0, none⟩)] 125)).alloc (.cells #[.int .i64 (i : Nat), .int .i64 left] 127)) 3 #[.int .i64 0]
      rwa [World.size_alloc, World.size_alloc] at this⟩
  have HSA : Hid (∀ W v, CtS w W mp p g fb i left v → (W.cell? ⟨g, 0, none⟩ = some (.pointer (some ⟨fb, 0, none⟩)) ∧ (W.cell? ⟨g + 1, 0, none⟩ = some (.int .i64 (i : Nat)) ∧ W.cell? ⟨g + 1, 1, none⟩ = some (.int .i64 left)) ∧ (W.cell? ⟨fb, 0, none⟩ = some (.string s) ∧ W.cell? ⟨fb, 2, none⟩ = some (.map (some mp))))) := hide (fun W v h => by
    have h1 := hf0.turn h.gb h.pm
    obtain ⟨-, x0, -⟩ := blk1 h.k2
    obtain ⟨-, y0, y1, -⟩ := blk2 h.k3
    obtain ⟨-, z0, -, z2, -⟩ := blk3 h1.blk
    exact ⟨x0, ⟨y0, y1⟩, ⟨z0, z2⟩⟩)
  have HLO : Hid (w.heap.size ≤ g ∧ mp < g ∧ fb < g) := hide ⟨by omega, by rw [← hg]; exact HMP.out, by rw [← hg]; exact HFB.out⟩
  have HEND : Hid (∀ W, CtS w W mp p g fb i left v → FlR W fb mp s u p ∧ w.grownBy W (some mp)) := hide (fun W h => ⟨hf0.turn h.gb h.pm, h.gb⟩)
  refine callsIn_of_wp_marks Tryd.func70 rfl (hF _) ?_ hro
  simp only [Tryd.ntmps70, List.size_toArray, List.length_cons, List.length_nil, Nat.reduceAdd, Nat.reduceSub, Array.replicate_succ, Array.replicate_zero, List.push_toArray, List.append_toArray, List.nil_append, List.cons_append]
  have HLEN := hide hlen
  have HP := hide hp
  clear HB1 ih hk hx hv hf0 HMP HFB hp
  gi_wp2_with fail
  (try simp only [World.size_alloc])
  (try rw [hg])
  clear hg
  generalize (((w.alloc (.cells #[.pointer (some ⟨fb, 0, none⟩)] 125)).alloc (.cells #[.int .i64 (i : Nat), .int .i64 left] 127)).alloc (.cells #[.int .i64 0] 3)) = w1 at HS1 ⊢
  (try simp only [Nat.add_assoc, Nat.reduceAdd])
  refine wpIn_on ?_
  refine wpIn_region_J (fun W : World => (W.cell? ⟨g, 0, none⟩ = some (.pointer (some ⟨fb, 0, none⟩)) ∧ (W.cell? ⟨g + 1, 0, none⟩ = some (.int .i64 (i : Nat)) ∧ W.cell? ⟨g + 1, 1, none⟩ = some (.int .i64 left)) ∧ (W.cell? ⟨fb, 0, none⟩ = some (.string s) ∧ W.cell? ⟨fb, 2, none⟩ = some (.map (some mp))))) (by kernel_rfl) ?_
  replace HS1 := hide (HS1.out.ext (Below.refl w1.heap.size w1).drew)
  generalize w1.drew = wd at HS1 ⊢
  refine tk_start [0, 1, 2, 3, 4, 5, 6, 7, 8] ?_
  iterate 9
    refine tk_one (v := ?_) (by first | exact hF | exact wideFn) (HSA.out _ _ HS1.out) rfl (by kernel_rfl) (by kernel_rfl) (by kernel_rfl) (by kernel_rfl) rfl ?_ (by first | exact fun _ _ _ h => h | exact fun _ _ _ h => hQ2 _ _ _ _ _ h) ?_
    rotate_left
    · intro W hSW
      simp only [glA, glB, glC]
      (try dsimp only at hSW)
      go_simp
      with_reducible rfl
    (try simp only [glA, glB, glC, Act.put, glD, glE, glF])
  refine tk_end ?_
  refine wpAnyJ_done (by kernel_rfl) ?_
  dsimp only [OnlyNormal]
  have hpl : p.length = s.size := HLEN.out
  by_cases hend : i = s.size
  · have hv0 : v = if 0 < left then 0 else 1 := by
      rw [← HV.out]
      unfold plW
      rw [List.drop_eq_nil_of_le (by dsimp only; omega)]
      rfl
    obtain ⟨c4, cc4, cf4⟩ := blk1 HS1.out.k4
    obtain ⟨c3, cc30, cc31, cf3⟩ := blk2 HS1.out.k3
    have hend' : (i : Int) = (s.size : Int) := by omega
    by_cases hl : 0 < left
    · rw [if_pos hl] at hv0
      have HE := hide (HEND.out _ (by rw [hv0]; exact HS1.out.set HLO.out.1 HLO.out.2.1 0))
      have HC : Hid ((wd.setCell ⟨g + 2, 0, none⟩ (.int .i64 0)).cell? ⟨g + 2, 0, none⟩ = some (.int .i64 0)) := hide (blk1 (HS1.out.set HLO.out.1 HLO.out.2.1 0).k4).2.1
      clear hvb
      subst hv0
      gi_wp2_with fail
      refine ⟨.int .i64 0, by have := HC.out; simp [results, Tryd.results70, go_sem, this], ?_⟩
      exact ⟨rfl, HE.out⟩
    · rw [if_neg hl] at hv0
      have HE := hide (HEND.out _ (by rw [hv0]; exact HS1.out.set HLO.out.1 HLO.out.2.1 1))
      have HC : Hid ((wd.setCell ⟨g + 2, 0, none⟩ (.int .i64 1)).cell? ⟨g + 2, 0, none⟩ = some (.int .i64 1)) := hide (blk1 (HS1.out.set HLO.out.1 HLO.out.2.1 1).k4).2.1
      clear hvb
      subst hv0
      gi_wp2_with fail
      refine ⟨.int .i64 1, by have := HC.out; simp [results, Tryd.results70, go_sem, this], ?_⟩
      exact ⟨rfl, HE.out⟩
  have hne : ¬ (i : Int) = (s.size : Int) := by omega
  have his : i < s.size := by omega
  gi_wp2_with fail
  clear hne
  replace HS1 := hide (HS1.out.ext (Below.refl wd.heap.size wd).drew)
  obtain ⟨c, y, hlk, hcy⟩ := HLK.out _ HS1.out.pm
  have HLK2 := hide hlk
  clear hlk
  refine wpIn_on ?_
  refine wpIn_region_J (fun W : World => ((W.cell? ⟨g, 0, none⟩ = some (.pointer (some ⟨fb, 0, none⟩)) ∧ (W.cell? ⟨g + 1, 0, none⟩ = some (.int .i64 (i : Nat)) ∧ W.cell? ⟨g + 1, 1, none⟩ = some (.int .i64 left)) ∧ (W.cell? ⟨fb, 0, none⟩ = some (.string s) ∧ W.cell? ⟨fb, 2, none⟩ = some (.map (some mp)))) ∧ (Instr.lookup 160 (.map (some mp)) (.agg #[.int .i64 (i : Nat), .int .i64 left]) true).run Tryd.prog W = .ok (.tuple #[.int .i64 c, .bool y]) W)) (by kernel_rfl) ?_
  generalize wd.drew = w3 at HS1 HLK2 ⊢
  refine tk_start [0, 1, 2, 3, 4, 5, 6, 7, 8, 9, 10] ?_
  iterate 11
    refine tk_one (v := ?_) (by first | exact hF | exact wideFn) ⟨HSA.out _ _ HS1.out, HLK2.out⟩ rfl (by kernel_rfl) (by kernel_rfl) (by kernel_rfl) (by kernel_rfl) rfl ?_ (by first | exact fun _ _ _ h => h | exact fun _ _ _ h => hQ2 _ _ _ _ _ h) ?_
    rotate_left
    · intro W hSW
      simp only [glA, glB, glC]
      (try dsimp only at hSW)
      go_simp
      with_reducible rfl
    (try simp only [glA, glB, glC, Act.put, glD, glE, glF])
  refine tk_end ?_
  refine wpAnyJ_done (by kernel_rfl) ?_
  dsimp only [OnlyNormal]
  rw [HV.out] at hcy
  obtain ⟨c4, cc4, cf4⟩ := blk1 HS1.out.k4
  cases y with
  | true =>
    obtain rfl := hcy rfl
    have HE := hide (HEND.out _ (HS1.out.set HLO.out.1 HLO.out.2.1 v))
    have HC := hide (blk1 (HS1.out.set HLO.out.1 HLO.out.2.1 v).k4).2.1
    gi_wp2_with fail
    refine ⟨.int .i64 v, by have := HC.out; simp [results, Tryd.results70, go_sem, this], ?_⟩
    exact ⟨rfl, HE.out⟩
  | false =>
  clear hcy HLK2
  obtain ⟨c2, cc2, cf2⟩ := blk1 HS1.out.k2
  obtain ⟨c3, cc30, cc31, cf3⟩ := blk2 HS1.out.k3
  have hmf : ∀ (fn : Fn) (first cap : Array Value) (w : World), (Instr.makeFunc fn first cap).run Tryd.prog w = .ok (.func fn first cap) w := fun _ _ _ _ => rfl
  (try dsimp only)
  (repeat (first | go_values | gi_guarded | gi_step | gi_upon))
  clear hmf
  (with_reducible refine (hwd (next_any fb i left _)).mono ?_)
  rintro e w4 ⟨rfl, rfl⟩
  (try dsimp only)
  (repeat (first | go_values | gi_guarded | gi_step | gi_upon))
  have hb4 : Below w3.heap.size w3 ((w3.alloc (.cells #[.pointer (some ⟨fb, 0, none⟩)] 125)).alloc (.cells #[.int .i64 (i : Nat), .int .i64 left] 127)) := ((Below.refl _ _).alloc (Nat.le_refl _) _).alloc (by simp) _
  have HS4 := hide (HS1.out.ext hb4)
  have K5 := hide ((Blk.new w3 125 #[.pointer (some ⟨fb, 0, none⟩)]).alloc (.cells #[.int .i64 (i : Nat), .int .i64 left] 127))
  have K6 := hide (Blk.new (w3.alloc (.cells #[.pointer (some ⟨fb, 0, none⟩)] 125)) 127 #[.int .i64 (i : Nat), .int .i64 left])
  rw [World.size_alloc] at K6
  have HLT : Hid (g + 2 < w3.heap.size) := hide HS1.out.k4.lt
  have HZ4 : Hid (((w3.alloc (.cells #[.pointer (some ⟨fb, 0, none⟩)] 125)).alloc (.cells #[.int .i64 (i : Nat), .int .i64 left] 127)).heap.size = w3.heap.size + 2) := hide (by simp)
  obtain ⟨pf, hpf⟩ : ∃ x, w3.heap.size = x := ⟨_, rfl⟩
  rw [hpf] at K5 K6 HLT HZ4 ⊢
  clear hb4 hpf
  generalize (w3.alloc (.cells #[.pointer (some ⟨fb, 0, none⟩)] 125)).alloc (.cells #[.int .i64 (i : Nat), .int .i64 left] 127) = w4 at HS4 K5 K6 HZ4 ⊢
  obtain ⟨ch, hch⟩ : ∃ ch, s[i]'his = ch := ⟨_, rfl⟩
  have hdr : p.drop i = ch :: p.drop (i + 1) := sdrop_at (by omega) (by
    have h := byte_at HP.out his
    rw [List.getD_eq_getElem?_getD, List.getElem?_eq_getElem (by omega), Option.getD_some] at h
    rw [← hch]
    exact h.symm)
  have hst := nx_seq F (9 - 1) hF hro hroom (by omega) (pf + 1) pf fb i left s ch his (by omega) hch hlf w4
  have hsm : smN (p.drop (i + 1)) (nxW ch left 2) = v := by rw [smN_all, ← hdr]; exact HV.out
  have HSM := hide hsm
  have HLF := hide hlf
  clear hdr hsm hch
  obtain ⟨A, hA⟩ : ∃ A, w4.heap.size = A := ⟨_, rfl⟩
  have HA : Hid (A = pf + 2) := hide (by rw [← hA]; exact HZ4.out)
  refine wpIn_rangeFunc_z hro (by omega) (gf := 106) (fs := #[]) (lb := #[.pointer (some ⟨pf + 1, 0, none⟩), .pointer (some ⟨pf, 0, none⟩)]) rfl (hF _) (enters_of Tryd.func106 (by kernel_rfl) rfl) hst (Below.refl _ _) (fun _ => rfl)
    (fun _ pre W => CtS w W mp p g fb i left (smN (p.drop (i + 1)) pre) ∧ Blk W pf 125 #[.pointer (some ⟨fb, 0, none⟩)] ∧ Blk W (pf + 1) 127 #[.int .i64 (i : Nat), .int .i64 left]) (fun _ _ _ => False) ?hZ ?hI0 ?hI (fun _ _ _ _ h _ => h)
    (fun M x a' W => ∃ g8, a' = { tmps := #[.pointer (some ⟨fb, 0, none⟩), .agg #[.int .i64 (i : Nat), .int .i64 left], .pointer (some ⟨g, 0, none⟩), .pointer (some ⟨g + 1, 0, none⟩), .pointer (some ⟨g + 2, 0, none⟩), .int .i64 c, .bool false, undef, .pointer (some ⟨g8, 0, none⟩), .pointer (some ⟨g + 1, 0, none⟩), .int .i64 (i : Nat), .pointer (some ⟨fb, 0, none⟩), .pointer (some ⟨fb, 0, none⟩), .pointer (some ⟨fb, 0, none⟩), .pointer (some ⟨fb, 0, none⟩), .string s, .int .i64 (s.size : Nat), .bool false, undef, undef, undef, .tuple #[.int .i64 c, .bool false], .pointer (some ⟨fb, 0, none⟩), .pointer (some ⟨fb, 0, none⟩), .pointer (some ⟨fb, 2, none⟩), .map (some mp), .agg #[.int .i64 (i : Nat), .int .i64 left], .tuple #[.int .i64 c, .bool false], .int .i64 c, .bool false, .bool false, undef, .func (.func 105) #[] #[.pointer (some ⟨g + 2, 0, none⟩), .pointer (some ⟨g, 0, none⟩), .pointer (some ⟨g + 1, 0, none⟩)], .pointer (some ⟨fb, 0, none⟩), .agg #[.int .i64 (i : Nat), .int .i64 left], .func (.func 106) #[] #[.pointer (some ⟨pf + 1, 0, none⟩), .pointer (some ⟨pf, 0, none⟩)], .int .u8 (x.1.toNat : Int), .agg #[.int .i64 ((i : Int) + 1), .int .i64 x.2], undef, undef, undef, undef, undef, undef], defers := [] } ∧ M ≤ g8 ∧ Blk W g8 127 #[.int .i64 ((i : Int) + 1), .int .i64 x.2])
    ?hAx ?hassign ?hbody ?hdone ?hstop
  case hZ =>
    rintro M pre W ⟨h1, h2, h3⟩
    obtain ⟨-, -, hz⟩ := HSA.out _ _ h1
    obtain ⟨-, y0, -⟩ := blk1 h2
    obtain ⟨-, z0, z1, -⟩ := blk2 h3
    exact ⟨z0, z1, y0, hz.1⟩
  case hI0 =>
    intro W1 h1 _
    exact ⟨HS4.out.ext h1, K5.out.ext h1, K6.out.ext h1⟩
  case hI =>
    rintro M pre W1 W2 ⟨h1, h2, h3⟩ ho
    rw [hA] at ho
    have e1 := HA.out
    have e2 := HLT.out
    have e3 := HLO.out
    exact ⟨h1.out ho (by omega) (by omega) (by omega), ho.blk h2 (by omega), ho.blk h3 (by omega)⟩
  case hAx =>
    rintro M x a' W1 W2 ⟨g8, rfl, h1, h2⟩ ho
    exact ⟨g8, rfl, h1, ho.blk h2 (by omega)⟩
  case hassign =>
    intro l M pre x W K hMW hI hK
    have HK2 := hide hK
    clear hK
    unfold nxE
    gi_wp2_with fail
    have hbn : Below W.heap.size W (W.alloc (.cells #[.int .i64 ((i : Int) + 1), .int .i64 x.2] 127)) := (Below.refl _ _).alloc (Nat.le_refl _) _
    refine HK2.out _ _ (KeepB.of_below hbn hMW) ⟨hI.1.ext hbn, hI.2.1.ext hbn, hI.2.2.ext hbn⟩ ⟨W.heap.size, rfl, hMW, ?_⟩
    exact Blk.new W _ _
  case hbody =>
    rintro l M pre x a' W hM2 hMW hpre ⟨hS, h5, h6⟩ ⟨g8, rfl, hg8, hk8⟩
    rw [hA] at hM2
    obtain ⟨sm, hsm⟩ : ∃ y, smN (p.drop (i + 1)) pre = y := ⟨_, rfl⟩
    rw [hsm] at hS
    obtain ⟨x1, x2⟩ := x
    dsimp only at hk8 ⊢
    have hmem : (x1, x2) ∈ nxW ch left 2 := by
      obtain ⟨t, ht⟩ := hpre
      rw [← ht]; simp
    have hlx : LfOk x2 := nx_mem HLF.out hmem
    have hsx : smN (p.drop (i + 1)) (pre ++ [(x1, x2)]) = sm + plW p (i + 1, x2) := by rw [smN_app, hsm]; rfl
    have hle : sm + plW p (i + 1, x2) ≤ v := by
      rw [← hsx, ← HSM.out]
      exact smN_le hpre
    obtain ⟨nx, hnx⟩ : ∃ y, plW p (i + 1, x2) = y := ⟨_, rfl⟩
    rw [hnx] at hsx hle
    have HSX := hide hsx
    have HPX : Hid (PlOk p (i + 1, x2)) := hide ⟨hn60, by show i + 1 ≤ p.length; omega, hlx⟩
    have HKX : Hid (p.length - (i + 1) < k) := hide (by have := HK.out; omega)
    have HIX : Hid (∀ W, FlR W fb mp s u p → Calls Tryd.prog 70 #[.pointer (some ⟨fb, 0, none⟩), .agg #[.int .i64 ((i : Int) + 1), .int .i64 x2]] W fun e w' => e = .returned (.int .i64 (nx : Nat)) ∧ FlR w' fb mp s u p ∧ W.grownBy w' (some mp)) := hide (fun W h => by
      have h1 := HIH.out (i + 1, x2) W HKX.out HPX.out h
      unfold CtPost plV at h1
      dsimp only at h1
      rw [hnx, show (((i + 1 : Nat)) : Int) = (i : Int) + 1 from by omega] at h1
      exact h1)
    clear hmem hlx hsx hpre hnx hsm hst
    have HKB : Hid (KeepB A M W W.drew) := hide (KeepB.of_below (Below.refl W.heap.size W).drew hMW)
    have S1 := hide (hS.ext (Below.refl W.heap.size W).drew)
    have B5 := hide (h5.ext (Below.refl W.heap.size W).drew)
    have B6 := hide (h6.ext (Below.refl W.heap.size W).drew)
    have B8 := hide (hk8.ext (Below.refl W.heap.size W).drew)
    have HMW : Hid (M ≤ W.drew.heap.size) := hide hMW
    clear hS h5 h6 hk8
    have hw1 : IntKind.i64.wrap ((sm : Int) + (nx : Int)) = ((sm + nx : Nat) : Int) := by rw [IntWalk.i64_in _ (by omega)]; omega
    have HSB : Hid (∀ W, CtS w W mp p g fb i left sm → Blk W g8 127 #[.int .i64 ((i : Int) + 1), .int .i64 x2] → (W.cell? ⟨g + 2, 0, none⟩ = some (.int .i64 (sm : Nat)) ∧ W.cell? ⟨g, 0, none⟩ = some (.pointer (some ⟨fb, 0, none⟩)) ∧ (W.cell? ⟨g8, 0, none⟩ = some (.int .i64 ((i : Int) + 1)) ∧ W.cell? ⟨g8, 1, none⟩ = some (.int .i64 x2)))) := hide (fun W h1 h2 => by
      obtain ⟨-, y0, -⟩ := blk1 h1.k4
      obtain ⟨-, y1, -⟩ := blk1 h1.k2
      obtain ⟨-, z0, z1, -⟩ := blk2 h2
      exact ⟨y0, y1, ⟨z0, z1⟩⟩)
    gi_wp2_with fail
    refine wpIn_on ?_
    refine wpIn_region_J (fun W : World => (W.cell? ⟨g + 2, 0, none⟩ = some (.int .i64 (sm : Nat)) ∧ W.cell? ⟨g, 0, none⟩ = some (.pointer (some ⟨fb, 0, none⟩)) ∧ (W.cell? ⟨g8, 0, none⟩ = some (.int .i64 ((i : Int) + 1)) ∧ W.cell? ⟨g8, 1, none⟩ = some (.int .i64 x2)))) (by kernel_rfl) ?_
    generalize W.drew = w7 at HKB S1 B5 B6 B8 HMW ⊢
    refine tk_start [0, 1, 2] ?_
    iterate 3
      refine tk_one (v := ?_) (by first | exact hF | exact wideFn) (HSB.out _ S1.out B8.out) rfl (by kernel_rfl) (by kernel_rfl) (by kernel_rfl) (by kernel_rfl) rfl ?_ (by first | exact fun _ _ _ h => h | exact fun _ _ _ h => hQ2 _ _ _ _ _ h) ?_
      rotate_left
      · intro W hSW
        simp only [glA, glB, glC]
        (try dsimp only at hSW)
        go_simp
        with_reducible rfl
      (try simp only [glA, glB, glC, Act.put, glD, glE, glF])
    refine tk_end ?_
    refine wpAnyJ_one 3 rfl (by kernel_rfl) (fun K hK => ?_)
    simp only [glA, glB, glC]
    go_simp
    (with_reducible refine ((CallsIn.inRound l (hwd (HIX.out w7 (HF0.out.turn S1.out.gb S1.out.pm))))).mono ?_)
    rintro e w9 ⟨rfl, h9, g9⟩
    have S3 := hide (S1.out.turn g9 h9.pm HLO.out.2.1); have B8' := hide (B8.out.grown g9 (fun e => by injection e with e; have h1 := HLO.out; have h2 := HLT.out; have h3 := HA.out; omega))
    dsimp only
    refine hK.out _ _ (fun _ => HSB.out _ S3.out B8'.out) ?_
    clear hK K
    (try simp only [glA, glB, glC, Act.put, glD, glE, glF])
    refine wpAnyJ_take 4 (v := ?_) (by first | exact hF | exact wideFn) (HSB.out _ S3.out B8'.out) rfl (by kernel_rfl) (by kernel_rfl) (by kernel_rfl) (by kernel_rfl) rfl ?_ (by first | exact fun _ _ _ h => h | exact fun _ _ _ h => hQ2 _ _ _ _ _ h) ?_
    rotate_left
    · intro W hSW
      simp only [glA, glB, glC]
      (try dsimp only at hSW)
      go_simp
      with_reducible rfl
    (try simp only [glA, glB, glC, Act.put, glD, glE, glF])
    obtain ⟨f1, c1, c2⟩ := blk1 S3.out.k4
    refine wpAnyJ_one 5 rfl (by kernel_rfl) (fun K hK => ?_)
    simp only [glA, glB, glC]
    go_simp
    refine hK.out _ _ (fun h => absurd h (by rw [show lastOp _ _ _ = true from by kernel_rfl]; simp)) ?_
    clear hK K
    (try simp only [glA, glB, glC, Act.put, glD, glE, glF])
    refine wpAnyJ_done (by kernel_rfl) ?_
    dsimp only [OnlyNormal]
    have e1 := HLO.out
    have e2 := HLT.out
    have e3 := HA.out
    have hkeep : KeepB A M W (w9.setCell ⟨g + 2, 0, none⟩ (.int .i64 (sm + nx : Nat))) :=
      (HKB.out.trans (KeepB.grown g9 (fun r e => by injection e with e; omega) HMW.out)).trans (KeepB.set w9 (by omega) 0 _)
    rw [← hA] at hkeep
    refine ⟨hkeep, ?_, ?_, ?_⟩
    · rw [HSX.out]
      exact S3.out.set e1.1 e1.2.1 (sm + nx)
    · exact (B5.out.grown g9 (fun e => by injection e with e; omega)).far (p := ⟨g + 2, 0, none⟩) (fun e => by dsimp only at e; omega) _
    · exact (B6.out.grown g9 (fun e => by injection e with e; omega)).far (p := ⟨g + 2, 0, none⟩) (fun e => by dsimp only at e; omega) _
  case hdone =>
    rintro D M W hD ⟨hS, h5, h6⟩ hK
    rw [HSM.out] at hS
    obtain ⟨c4, cc4, cf4⟩ := blk1 hS.k4
    have HS := hide (hS.set HLO.out.1 HLO.out.2.1 v)
    have hKd : (W.setCell ⟨g + 2, 0, none⟩ (.int .i64 (v : Nat))).heap[D]? = some (.deferred (some [])) := (Below.heap_setCell _ _ _ D (by have h1 := HLO.out; have h2 := HLT.out; have h3 := HA.out; dsimp only; omega)).trans hK
    have HKD := hide hKd
    clear hS h5 h6 hK hKd hst
    gi_wp2_with fail
    refine ⟨by simp, .inl ⟨_, _, rfl, run_takeDeferred HKD.out, ?_⟩⟩
    have e1 := HLO.out
    have e2 := HLT.out
    have e3 := HA.out
    have hob : OutK D (D + 1) (W.setCell ⟨g + 2, 0, none⟩ (.int .i64 (v : Nat))) ((W.setCell ⟨g + 2, 0, none⟩ (.int .i64 (v : Nat))).putObj D (.deferred none)) := OutK.putObj _ (Nat.le_refl _) (by omega) _
    have hS2 := HS.out.out hob (by have := HG.out; omega) (by omega) (by omega)
    generalize (W.setCell ⟨g + 2, 0, none⟩ (.int .i64 (v : Nat))).putObj D (.deferred none) = W2 at hS2 ⊢
    refine ⟨by simp, .inr ⟨fun _ => by omega, .func 105, _, 105, #[.pointer (some ⟨g + 2, 0, none⟩), .pointer (some ⟨g, 0, none⟩), .pointer (some ⟨g + 1, 0, none⟩)], rfl, (by simp [invoke, go_sem]), (fun g' _ => hF g'), ?_⟩⟩
    obtain ⟨s1, ⟨s2, s3⟩, s4, s5⟩ := HSA.out _ _ hS2
    refine (known_d F (9 - 1) hF hro .returning W2 (g + 2) g (g + 1) fb mp i v left p HX.out hS2.pm HV.out ⟨s1, s5, ⟨s2, s3⟩, (blk1 hS2.k4).2.1⟩).mono ?_
    rintro e m' w' ⟨rfl, rfl, hp', hg'⟩
    have hS3 := hS2.turn hg' hp' e1.2.1
    have hc := (blk1 hS3.k4).2.1
    refine ⟨.int .i64 v, by simp [results, Tryd.results70, go_sem, hc], ?_⟩
    exact ⟨rfl, HEND.out _ hS3⟩
  case hstop =>
    intro D c pre W hD hSp h hK
    exact h.elim
end Go.Proofs.YtlkkkgpcjdemdaaDoor
/- Song: is it a line of a metre? a new filler; Count. -/
namespace Go.Proofs.YtlkkkgpcjdemdaaDoor
open Go Go.RowKit Go.Shelf
attribute [local go_sem] Oper.semAt_some
set_option maxHeartbeats 4000000
set_option maxRecDepth 100000
def lgx : List UInt8 := [108, 103, 120]
/-- a valid line of a metre: its pattern and its units -/
def lnOk (l : List UInt8) (u : Int) : Bool := decide (1 ≤ l.length) && (decide (l.length ≤ 60) && (l.all (fun b => lgx.contains b) && (decide (0 ≤ u) && decide (u ≤ 120))))
theorem lnOk_iff {l : List UInt8} {u : Int} : lnOk l u = true ↔ 1 ≤ l.length ∧ l.length ≤ 60 ∧ l.all (fun b => lgx.contains b) = true ∧ 0 ≤ u ∧ u ≤ 120 := by
  unfold lnOk
  rw [Bool.and_eq_true, Bool.and_eq_true, Bool.and_eq_true, Bool.and_eq_true, decide_eq_true_iff, decide_eq_true_iff, decide_eq_true_iff, decide_eq_true_iff]
theorem lnOk_no {l : List UInt8} {u : Int} (h : ¬ (1 ≤ l.length ∧ l.length ≤ 60 ∧ l.all (fun b => lgx.contains b) = true ∧ 0 ≤ u ∧ u ≤ 120)) : lnOk l u = false := by
  rw [← Bool.not_eq_true, lnOk_iff]; exact h
theorem trimS_all (l cs : List UInt8) : Go.Lib.trimS l cs = [] ↔ l.all (fun b => cs.contains b) = true := by
  unfold Go.Lib.trimS Go.Lib.trimLeftS Go.Lib.trimRightS
  rw [drop_nil, List.all_reverse, drop_all, List.all_reverse]
theorem isLine_any (s : ByteArray) (l : List UInt8) (hl : s.data.toList = l) (u : Int) (w : World) (hs : s.size ≤ maxLen) :
    Calls Tryd.prog 68 #[.agg #[.string s, .int .i64 u]] w fun e w' => e = .returned (.bool (lnOk l u)) ∧ Below w.heap.size w w' := by
  unfold maxLen at hs
  have HT := hide (fun (w : World) => Any.strings_Trim_laid lays160 (by kernel_rfl) s ⟨lgx.toArray⟩ w (by omega) (by decide) (ascii_of_all (by decide)))
  obtain ⟨R, hR⟩ : ∃ R, Go.Lib.trimS s.data.toList lgx = R := ⟨_, rfl⟩
  have hall : R = [] ↔ l.all (fun b => lgx.contains b) = true := by rw [← hR, hl]; exact trimS_all _ _
  have hlen : l.length = s.size := size_len hl
  have HT2 : Hid (∀ w : World, Calls Tryd.prog 56 #[.string s, .string ⟨#[108, 103, 120]⟩] w fun e w' => e = .returned (.string ⟨R.toArray⟩) ∧ Below w.heap.size w w') := hide (fun w => by
    have h := HT.out w
    rw [hR] at h
    exact h)
  obtain ⟨b, hb⟩ : ∃ b, lnOk l u = b := ⟨_, rfl⟩
  rw [hb]
  have hb0 : ∀ W, Below W.heap.size W (W.alloc (.cells #[.string s, .int .i64 u] 81)) := fun W => (Below.refl _ _).alloc (Nat.le_refl _) _
  have HB0 := hide (hb0 w)
  clear HT hR hb0
  by_cases h1 : 1 ≤ (s.size : Int)
  rotate_left
  · obtain rfl : b = false := by rw [← hb]; exact lnOk_no (fun h => by omega)
    clear hb
    go_enter Tryd.func68, Tryd.ntmps68
    go_wp2_with fail
    go_ret
    exact ⟨rfl, HB0.out⟩
  by_cases h2 : (s.size : Int) ≤ 60
  rotate_left
  · obtain rfl : b = false := by rw [← hb]; exact lnOk_no (fun h => by omega)
    clear hb
    go_enter Tryd.func68, Tryd.ntmps68
    go_wp2_with fail
    go_ret
    exact ⟨rfl, HB0.out⟩
  rcases R with _ | ⟨c, R⟩
  rotate_left
  · obtain rfl : b = false := by rw [← hb]; exact lnOk_no (fun h => by have := hall.2 h.2.2.1; cases this)
    clear hb hall
    go_enter Tryd.func68, Tryd.ntmps68
    go_wp2_with fail
    refine (HT2.out _).mono ?_
    rintro e w3 ⟨rfl, hb3⟩
    go_wp2_with fail
    go_ret
    exact ⟨rfl, HB0.out.trans (hb3.mono HB0.out.size)⟩
  have hal := hall.1 rfl
  by_cases h3 : 0 ≤ u
  rotate_left
  · obtain rfl : b = false := by rw [← hb]; exact lnOk_no (fun h => by omega)
    clear hb hall hal
    go_enter Tryd.func68, Tryd.ntmps68
    go_wp2_with fail
    refine (HT2.out _).mono ?_
    rintro e w3 ⟨rfl, hb3⟩
    obtain ⟨hc3, hf3⟩ := bcell hb3
    go_wp2_with fail
    go_ret
    exact ⟨rfl, HB0.out.trans (hb3.mono HB0.out.size)⟩
  by_cases h4 : u ≤ 120
  · obtain rfl : b = true := by rw [← hb, lnOk_iff]; exact ⟨by omega, by omega, hal, h3, h4⟩
    clear hb hall hal
    go_enter Tryd.func68, Tryd.ntmps68
    go_wp2_with fail
    refine (HT2.out _).mono ?_
    rintro e w3 ⟨rfl, hb3⟩
    obtain ⟨hc3, hf3⟩ := bcell hb3
    go_wp2_with fail
    go_ret
    exact ⟨rfl, HB0.out.trans (hb3.mono HB0.out.size)⟩
  · obtain rfl : b = false := by rw [← hb]; exact lnOk_no (fun h => by omega)
    clear hb hall hal
    go_enter Tryd.func68, Tryd.ntmps68
    go_wp2_with fail
    refine (HT2.out _).mono ?_
    rintro e w3 ⟨rfl, hb3⟩
    obtain ⟨hc3, hf3⟩ := bcell hb3
    go_wp2_with fail
    go_ret
    refine ⟨?_, HB0.out.trans (hb3.mono HB0.out.size)⟩
    show Ending.returned (.bool (decide (u ≤ 120))) = _
    rw [decide_eq_false (show ¬ u ≤ 120 by omega)]
/-- what a new filler is -/
def NfPost (w : World) (s : ByteArray) (u : Int) (p : List UInt8) (e : Ending) (w' : World) : Prop :=
  ∃ fb mp, e = .returned (.tuple #[.pointer (some ⟨fb, 0, none⟩), .agg #[.int .i64 0, .int .i64 (beW u)]]) ∧ FlR w' fb mp s u p ∧ w.heap.size ≤ mp ∧ Below w.heap.size w w'
theorem newFiller_any (s : ByteArray) (p : List UInt8) (u : Int) (w : World) : Calls Tryd.prog 69 #[.agg #[.string s, .int .i64 u]] w (NfPost w s u p) := by
  obtain ⟨g, hg⟩ : ∃ g, w.heap.size = g := ⟨_, rfl⟩
  obtain ⟨b, hb⟩ : ∃ b, beW u = b := ⟨_, rfl⟩
  obtain ⟨Q, hQ⟩ : ∃ Q, NfPost w s u p = Q := ⟨_, rfl⟩
  have HQ : Hid (∀ w', w' = ((((w.alloc (.cells #[.string s, .int .i64 u] 81)).alloc (.cells #[.int .i64 0, .int .i64 b] 127)).alloc (.map #[] 0)).alloc (.cells #[.string s, .int .i64 u, .map (some (g + 2))] 162)) →
      Q (.returned (.tuple #[.pointer (some ⟨g + 3, 0, none⟩), .agg #[.int .i64 0, .int .i64 b]])) w') := hide (by
    intro w' hw
    subst hw
    rw [← hQ, ← hb]
    have hb1 : Below g w (w.alloc (.cells #[.string s, .int .i64 u] 81)) := (Below.refl g w).alloc (by omega) _
    have hb2 := hb1.alloc (by simp; omega) (.cells #[.int .i64 0, .int .i64 (beW u)] 127)
    have hp := PmAt.made ((w.alloc (.cells #[.string s, .int .i64 u] 81)).alloc (.cells #[.int .i64 0, .int .i64 (beW u)] 127)) p
    have hb3 := hb2.alloc (by simp; omega) (.map #[] 0)
    have hk := Blk.new (((w.alloc (.cells #[.string s, .int .i64 u] 81)).alloc (.cells #[.int .i64 0, .int .i64 (beW u)] 127)).alloc (.map #[] 0)) 162 #[.string s, .int .i64 u, .map (some (g + 2))]
    have hb4 := hb3.alloc (by simp; omega) (.cells #[.string s, .int .i64 u, .map (some (g + 2))] 162)
    have hx := hp.ext ((Below.refl _ _).alloc (Nat.le_refl _) (.cells #[.string s, .int .i64 u, .map (some (g + 2))] 162))
    simp only [World.size_alloc] at hk hx
    rw [hg] at hk hx
    exact ⟨g + 3, g + 2, rfl, ⟨hk, hx⟩, by omega, by rw [hg]; exact hb4⟩)
  have HC : Hid (∀ w', w' = ((((w.alloc (.cells #[.string s, .int .i64 u] 81)).alloc (.cells #[.int .i64 0, .int .i64 b] 127)).alloc (.map #[] 0)).alloc (.cells #[.string s, .int .i64 u, .map (some (g + 2))] 162)) →
      w'.cell? ⟨g + 1, 0, none⟩ = some (.int .i64 0) ∧ w'.cell? ⟨g + 1, 1, none⟩ = some (.int .i64 b)) := hide (by
    intro w' hw
    subst hw
    have hk := ((Blk.new (w.alloc (.cells #[.string s, .int .i64 u] 81)) 127 #[.int .i64 0, .int .i64 b]).alloc (.map #[] 0)).alloc (.cells #[.string s, .int .i64 u, .map (some (g + 2))] 162)
    rw [World.size_alloc, hg] at hk
    obtain ⟨-, h1, h2, -⟩ := blk2 hk
    exact ⟨h1, h2⟩)
  rw [hQ]
  clear hQ
  have hmm := @run_makeMap Tryd.prog
  by_cases h0 : u = 0
  · subst h0
    obtain rfl : b = -1 := by rw [← hb]; rfl
    clear hb
    go_enter Tryd.func69, Tryd.ntmps69
    go_wp2_with fail
    simp only [Nat.add_assoc, Nat.reduceAdd]
    obtain ⟨h1, h2⟩ := HC.out _ rfl
    refine ⟨rfl, _, ?_, HQ.out _ rfl⟩
    simp [results, Tryd.results69, go_sem, h1, h2]
  · obtain rfl : b = u := by rw [← hb]; unfold beW; rw [if_neg h0]
    clear hb
    go_enter Tryd.func69, Tryd.ntmps69
    go_wp2_with fail
    simp only [Nat.add_assoc, Nat.reduceAdd]
    obtain ⟨h1, h2⟩ := HC.out _ rfl
    refine ⟨rfl, _, ?_, HQ.out _ rfl⟩
    simp [results, Tryd.results69, go_sem, h1, h2]
/-- what Count returns -/
def cnR (l : List UInt8) (u : Int) : Int × Int := if lnOk l u then ((ctW l (beW u) : Nat), 0) else (0, 2)
theorem Count_any (s : ByteArray) (l : List UInt8) (hl : s.data.toList = l) (u : Int) (w : World) (hs : s.size ≤ maxLen) :
    Calls Tryd.prog 41 #[.agg #[.string s, .int .i64 u]] w fun e w' => e = .returned (.tuple #[.int .i64 (cnR l u).1, .int .i64 (cnR l u).2]) ∧ Below w.heap.size w w' := by
  have HL := hide (fun W => isLine_any s l hl u W hs)
  have HB0 := hide ((Below.refl w.heap.size w).alloc (Nat.le_refl _) (.cells #[.string s, .int .i64 u] 81))
  unfold cnR
  rcases hok : lnOk l u with _ | _
  · rw [hok] at HL
    rw [if_neg (by simp)]
    dsimp only
    go_enter Tryd.func41, Tryd.ntmps41
    go_wp2_with fail
    refine (HL.out _).mono ?_
    rintro e w1 ⟨rfl, hb1⟩
    go_wp2_with fail
    go_ret2
    exact ⟨rfl, HB0.out.trans (hb1.mono HB0.out.size)⟩
  · rw [hok] at HL
    rw [if_pos rfl]
    dsimp only
    obtain ⟨k1, k2, k3, k4, k5⟩ := lnOk_iff.1 hok
    have HC := hide (fun fb mp W (h : FlR W fb mp s u l) => count_any fb mp s u l hl (l.length + 1) (0, beW u) W (by omega) ⟨k2, Nat.zero_le _, beW_ok ⟨k4, k5⟩⟩ h)
    have HC : Hid (∀ fb mp W, FlR W fb mp s u l → Calls Tryd.prog 70 #[.pointer (some ⟨fb, 0, none⟩), .agg #[.int .i64 0, .int .i64 (beW u)]] W fun e w' => e = .returned (.int .i64 (ctW l (beW u) : Nat)) ∧ FlR w' fb mp s u l ∧ W.grownBy w' (some mp)) := HC
    have HN := hide (fun W => newFiller_any s l u W)
    unfold NfPost at HN
    generalize ctW l (beW u) = n at HC ⊢
    generalize beW u = b at HC HN ⊢
    clear hok hl k1 k2 k3 k4 k5 hs
    go_enter Tryd.func41, Tryd.ntmps41
    go_wp2_with fail
    refine (HL.out _).mono ?_
    rintro e w1 ⟨rfl, hb1⟩
    obtain ⟨hc1, hf1⟩ := bcell hb1
    have hz1 := hb1.size
    go_wp2_with fail
    refine (HN.out _).mono ?_
    rintro e w2 ⟨fb, mp, rfl, hfl, hmp, hb2⟩
    go_wp2_with fail
    have HB3 := hide ((Below.refl w2.heap.size w2).alloc (Nat.le_refl _) (.cells #[.int .i64 0, .int .i64 b] 127))
    refine (HC.out fb mp _ (hfl.ext HB3.out)).mono ?_
    rintro e w3 ⟨rfl, -, hg3⟩
    have HE : Hid (Below w.heap.size w w3) := hide (by
      have h0 := HB0.out
      have h1 := h0.trans (hb1.mono h0.size)
      have h2 := h1.trans (hb2.mono h1.size)
      have h3 := h2.trans (HB3.out.mono h2.size)
      exact h3.grown hg3 h3.size (fun k e => by injection e with e; have := h1.size; omega))
    clear hg3 hfl hb2 hb1 hc1 hf1 hz1 hmp
    go_wp2_with fail
    go_ret2
    exact ⟨rfl, HE.out⟩
end Go.Proofs.YtlkkkgpcjdemdaaDoor
/- Words that hang on no chapter: own lists of bytes; a new row put behind an own list; where a function with marks ends. -/
namespace Go.Proofs.YtlkkkgpcjdemdaaDoor
open Go Go.RowKit Go.Shelf
set_option maxHeartbeats 2000000
set_option maxRecDepth 100000
theorem info_u8 : (Tryd.prog.info? 5).map (fun i => (i.zero, i.size, i.bytes)) = some (some (.int .u8 0), 1, 1) := by kernel_rfl
def bytV (l : List UInt8) : List Value := l.map fun b => .int .u8 (b.toNat : Int)
theorem bytV_len (l : List UInt8) : (bytV l).length = l.length := by simp [bytV]
theorem bytV_one (l : List UInt8) : ∀ u ∈ bytV l, u.oneCell' = true := by
  intro u hu
  obtain ⟨x, -, rfl⟩ := List.mem_map.1 hu
  rfl
/-- an own list of bytes -/
def OwnU (W : World) (n0 : Nat) (v : Value) (l : List UInt8) : Prop := W.ownsRow n0 5 1 v l.length (bytV l)
theorem OwnU.nil (W : World) (n0 : Nat) : OwnU W n0 (.slice none 0 0) [] := ⟨rfl, .inl ⟨rfl, rfl⟩⟩
/-- one more value behind an own list, out of a new row of one -/
theorem own_push {P : Program} {W : World} {base : Nat} (t e : TypeId) (i : TypeInfo) (z : Value) (bytes : Nat) (ht : P.underlying t = some (.slice e)) (hi : P.info? e = some i) (hz : i.zero = some z) (hs : i.size = 1) (hb : i.bytes = bytes) (hzs : z.cells.size = 1)
    {v : Value} {n : Nat} {xs : List Value} (h : W.ownsRow base e 1 v n xs) (x : Value) (hx : x.oneCell' = true) (hn : (n + 1) * bytes ≤ 140737488355328) (hn1 : n + 1 ≤ maxLen) (hbase : base ≤ W.heap.size) :
    ∃ v' w', (Builtin.append_ #[t, t] t #[v, .slice (some ⟨W.heap.size, 0, none⟩) 1 1]).run P (W.alloc (.cells #[x] e)) = .ok v' w' ∧ w'.ownsRow base e 1 v' (n + 1) (xs ++ [x]) ∧ (W.alloc (.cells #[x] e)).grownBy w' v.ownBlock ∧
      (v'.ownBlock = v.ownBlock ∨ v'.ownBlock = some (W.heap.size + 1)) := by
  have h1 : (W.alloc (.cells #[x] e)).ownsRow base e 1 v n xs := ownBelow h ((Below.refl _ _).alloc (Nat.le_refl _) _)
  obtain ⟨v', w', hr, h2, h3, -, h4⟩ := run_append_own_at (P := P) (w := W.alloc (.cells #[x] e)) base t t e i z 1 bytes ht hi hz hs hb hzs (by decide) v n xs h1 ⟨W.heap.size, 0, none⟩ 1 1 [x] rfl
    (fun j u hj => by
      have hlt := (List.getElem?_eq_some_iff.1 hj).1
      obtain rfl : j = 0 := by simpa using hlt
      have e4 : ((⟨W.heap.size, 0, none⟩ : Addr).add 0) = ⟨W.heap.size, 0, none⟩ := by simp [Addr.add]
      rw [e4, cell_new, ← hj]
      rfl) (fun u hu => by rw [List.mem_singleton.1 hu]; exact hx) hn1 hn (by simp; omega)
  refine ⟨v', w', hr, h2, h3, ?_⟩
  rcases h4 with h4 | h4
  · exact .inl h4
  · exact .inr (by rw [h4]; simp)
theorem OwnU.push {W : World} {base : Nat} {v : Value} {l : List UInt8} (h : OwnU W base v l) (b : UInt8) (hl : l.length ≤ 1000000) (hb : base ≤ W.heap.size) :
    ∃ v' w', (Builtin.append_ #[113, 113] 113 #[v, .slice (some ⟨W.heap.size, 0, none⟩) 1 1]).run Tryd.prog (W.alloc (.cells #[.int .u8 (b.toNat : Int)] 5)) = .ok v' w' ∧ OwnU w' base v' (l ++ [b]) ∧
      (W.alloc (.cells #[.int .u8 (b.toNat : Int)] 5)).grownBy w' v.ownBlock ∧ (v'.ownBlock = v.ownBlock ∨ v'.ownBlock = some (W.heap.size + 1)) := by
  obtain ⟨i0, hi, hz0, hz1, hz2⟩ := info_parts info_u8
  obtain ⟨v', w', hr, h2, h3, h4⟩ := own_push (P := Tryd.prog) 113 5 i0 _ 1 Tryd.underlying113 hi hz0 hz1 hz2 rfl h (.int .u8 (b.toNat : Int)) rfl (by omega) (by unfold maxLen; omega) hb
  refine ⟨v', w', hr, ?_, h3, h4⟩
  unfold OwnU
  unfold bytV at h2 ⊢
  rw [List.map_append, List.length_append]
  exact h2
/-- the text of an own list of bytes -/
theorem OwnU.text {W : World} {base : Nat} {v : Value} {l : List UInt8} (h : OwnU W base v l) (hl : l ≠ []) : (convert 113 9 v).run Tryd.prog W = .ok (.string ⟨l.toArray⟩) W := by
  rcases h.2 with ⟨-, h2⟩ | ⟨g, cap, cur, rfl, -, hg, -⟩
  · exact absurd (by simpa [bytV] using h2) hl
  · refine run_convert_bytes_back W 113 9 5 ⟨g, 0, none⟩ cap l Tryd.underlying113 Tryd.underlying5 Tryd.underlying9 ?_
    intro j hj
    refine World.ownsRow.cells h (g := g) rfl j _ ?_
    unfold bytV
    rw [List.getElem?_map, List.getElem?_eq_getElem hj]
    rfl
end Go.Proofs.YtlkkkgpcjdemdaaDoor
/- Song: Scan, walked. -/
namespace Go.Proofs.YtlkkkgpcjdemdaaDoor
open Go Go.RowKit Go.Shelf
attribute [local go_sem] Oper.semAt_some
set_option maxHeartbeats 8000000
set_option maxRecDepth 100000
theorem syllables_any (s : ByteArray) (w : World) :
    Calls Tryd.prog 59 #[.string s] w fun e w' => e = .returned (.func (.func 98) #[] #[.pointer (some ⟨w.heap.size, 0, none⟩)]) ∧ w.alloc (.cells #[.string s] 9) = w' := by
  go_enter Tryd.func59, Tryd.ntmps59
  go_wp2_with fail
  go_ret
  exact ⟨rfl, rfl⟩
/-- a valid line -/
theorem chk_ok {L : List UInt8} (h : chkE L = 0) : L.length ≤ 300 ∧ (∀ b ∈ ltr L, b.toNat < 128) ∧ ((ltr L).any fun b => vwB b.toNat) = true := by
  unfold chkE at h
  split at h
  · omega
  rename_i h1
  split at h
  · omega
  split at h
  · omega
  rename_i h3
  split at h
  · omega
  split at h
  · omega
  rename_i h5
  refine ⟨by omega, ?_, ?_⟩
  · intro b hb
    unfold ltr at hb
    have hb := (List.mem_filter.1 hb).1
    apply ok_lt
    rcases hk : okB b.toNat with _ | _
    · exfalso; apply h3; unfold badC; rw [List.any_eq_true]; exact ⟨b, hb, by rw [hk]; rfl⟩
    · rfl
  · unfold novw at h5
    have h6 : ¬ ∀ b ∈ L, (!vwB b.toNat) = true := by rw [← List.all_eq_true]; exact h5
    rw [List.any_eq_true]
    apply Classical.byContradiction
    intro hn
    apply h6
    intro b hb
    rcases hk : vwB b.toNat with _ | _
    · rfl
    · exfalso
      apply hn
      refine ⟨b, ?_, hk⟩
      unfold ltr
      rw [List.mem_filter]
      refine ⟨hb, ?_⟩
      rcases he : (b != 32) with _ | _
      · rw [bne_eq_false_iff_eq] at he
        subst he
        have : vwB (32 : UInt8).toNat = false := by decide
        rw [this] at hk; cases hk
      · rfl
theorem syl_seq (F : Fence) (n : Nat) (hF : ∀ f, F.fn f) (hro : F.round = none) (hroom : ∀ j, F.room j) (hwd : ∀ {m f args w R}, Calls Tryd.prog f args w R → CallsIn F m Tryd.prog f args w R) (hn : 2 ≤ n)
    (p : Nat) (s : ByteArray) (L : List UInt8) (hl : s.data.toList = L) (hc : chkE L = 0) (w : World) (hp : w.cell? ⟨p, 0, none⟩ = some (.string s)) (hM : ML w) :
    SeqO F n Tryd.prog 98 #[] #[.pointer (some ⟨p, 0, none⟩)] sylE (sylL L) w := by
  intro l J Jx W hb h0 hJ _ hY
  obtain ⟨h1, h2, h3⟩ := chk_ok hc
  exact syl_in F n hF hro hroom hwd hn l p s L hl (by rw [← size_len hl]; omega) J Jx W ((hb.cell (cell_lt hp)).trans hp) h2 h3 (hM.ext hb) h0 hJ hY
theorem syl_ne : ∀ (r h v t : List UInt8), syl r h v t ≠ []
  | [], h, v, t => by rw [syl_nil]; simp
  | c :: r, h, v, t => by
    unfold syl
    split
    · split
      · exact syl_ne r _ _ _
      · simp
    · split
      · exact syl_ne r _ _ _
      · exact syl_ne r _ _ _
theorem syl_len : ∀ (r h v t : List UInt8), (syl r h v t).length ≤ r.length + 1
  | [], h, v, t => by rw [syl_nil]; simp
  | c :: r, h, v, t => by
    unfold syl
    have a1 := syl_len r h [c] t
    have a2 := syl_len r (tlN false h v t) [c] []
    have a3 := syl_len r (h ++ [c]) v t
    have a4 := syl_len r h v (t ++ [c])
    split
    · split
      · simp; omega
      · simp; omega
    · split
      · simp; omega
      · simp; omega
theorem sylL_len {L : List UInt8} (h : chkE L = 0) : (sylL L).length ≤ 301 := by
  have h1 := syl_len (ltr L) [] [] []
  have h2 := ltr_le L
  have h3 := (chk_ok h).1
  unfold sylL; omega
def wgU (g : Bool) : UInt8 := if g then 103 else 108
theorem wgU_int (g : Bool) : ((wgU g).toNat : Int) = wgB g := by cases g <;> rfl
/-- the weights -/
def way (l : List Syl) : List UInt8 := l.map fun x => wgU x.2
def scnT (L : List UInt8) : List UInt8 := if chkE L = 0 then way (sylL L) else []
/-- what Scan keeps: w its start, b its box -/
structure ScI (w : World) (b A M : Nat) (l : List UInt8) (W : World) : Prop where
  low : Below w.heap.size w W
  row : ∃ v, Blk W b 113 #[v] ∧ OwnU W w.heap.size v l ∧ ∀ g, v.ownBlock = some g → M ≤ g
  lo : w.heap.size ≤ b
  hi : b < A
theorem ScI.out {w W W' : World} {b A M : Nat} {l : List UInt8} (h : ScI w b A M l W) (ho : OutK A M W W') : ScI w b A M l W' := by
  obtain ⟨v, h1, h2, h3⟩ := h.row
  have := h.lo
  have := h.hi
  exact ⟨ho.below h.low (by omega) (Nat.le_refl _), ⟨v, ho.blk h1 (by omega), ho.own h2 (fun g hg => by have := h3 g hg; omega), h3⟩, h.lo, h.hi⟩
theorem ScI.ext {w W W' : World} {b A M : Nat} {l : List UInt8} (h : ScI w b A M l W) (hb : Below W.heap.size W W') : ScI w b A M l W' := h.out (OutK.of_below hb)
theorem scan_ok (s : ByteArray) (L : List UInt8) (hl : s.data.toList = L) (w : World) (hs : s.size ≤ maxLen) (hM : ML w) (hc : chkE L = 0) :
    Calls Tryd.prog 33 #[.string s] w fun e w' => e = .returned (.tuple #[.string ⟨(way (sylL L)).toArray⟩, .int .i64 0]) ∧ Below w.heap.size w w' := by
  refine (callsIn_wide (n := 9)).1 ?_
  obtain ⟨F, hFw⟩ : ∃ F : Fence, F = Fence.wide := ⟨_, rfl⟩
  rw [← hFw]
  have hF : ∀ f, F.fn f := by rw [hFw]; exact fun _ => trivial
  have hro : F.round = none := by rw [hFw]; rfl
  have hroom : ∀ j, F.room j := by rw [hFw]; exact fun _ => room_wide _
  have hwd : ∀ {n f args w R}, Calls Tryd.prog f args w R → CallsIn F n Tryd.prog f args w R := by rw [hFw]; exact fun h => callsIn_wide.2 h
  clear hFw
  have HCK := hide (check_any s L hl w hs hM)
  rw [hc] at HCK
  have HC := hide hc
  have HLL := hide (sylL_len hc)
  have HSQ := hide (fun p W (hp : W.cell? ⟨p, 0, none⟩ = some (.string s)) (h : ML W) => syl_seq F (9 - 1) hF hro hroom hwd (by omega) p s L hl hc W hp h)
  have HM := hide hM
  clear hl hs hM hc
  refine callsIn_of_wp_marks Tryd.func33 rfl (hF _) ?_ hro
  simp only [Tryd.ntmps33, List.size_toArray, List.length_cons, List.length_nil, Nat.reduceAdd, Nat.reduceSub, Array.replicate_succ, Array.replicate_zero, List.push_toArray, List.append_toArray, List.nil_append, List.cons_append]
  gi_wp2_with fail
  (with_reducible refine (hwd HCK.out).mono ?_)
  rintro e w1 ⟨rfl, hb1⟩
  have HB1 := hide hb1
  clear hb1
  gi_wp2_with fail
  (with_reducible refine (hwd (syllables_any s _)).mono ?_)
  rintro e w2 ⟨rfl, rfl⟩
  (try dsimp only)
  (repeat (first | go_values | gi_guarded | gi_step | gi_upon))
  simp only [World.size_alloc]
  have hbw : Below w1.heap.size w1 ((w1.alloc (.cells #[.slice none 0 0] 113)).alloc (.cells #[.string s] 9)) := ((Below.refl _ _).alloc (Nat.le_refl _) _).alloc (by simp) _
  have kb : Blk ((w1.alloc (.cells #[.slice none 0 0] 113)).alloc (.cells #[.string s] 9)) w1.heap.size 113 #[.slice none 0 0] := (Blk.new w1 _ _).alloc _
  have ks : ((w1.alloc (.cells #[.slice none 0 0] 113)).alloc (.cells #[.string s] 9)).cell? ⟨w1.heap.size + 1, 0, none⟩ = some (.string s) := by
    have := cell_new (w1.alloc (.cells #[.slice none 0 0] 113)) #[.string s] 9 0
    rw [World.size_alloc] at this
    exact this
  have hsz : ((w1.alloc (.cells #[.slice none 0 0] 113)).alloc (.cells #[.string s] 9)).heap.size = w1.heap.size + 2 := by simp
  have hml := HM.out.ext (HB1.out.trans (hbw.mono HB1.out.size))
  have HB0 := hide (HB1.out.trans (hbw.mono HB1.out.size))
  obtain ⟨b, hb⟩ : ∃ b, w1.heap.size = b := ⟨_, rfl⟩
  have hlo : w.heap.size ≤ b := by rw [← hb]; exact HB1.out.size
  rw [hb] at kb ks hsz ⊢
  generalize ((w1.alloc (.cells #[.slice none 0 0] 113)).alloc (.cells #[.string s] 9)) = W0 at kb ks hsz hml HB0 ⊢
  have hst := HSQ.out (b + 1) W0 ks hml
  clear hbw hb HSQ HM HCK
  obtain ⟨A, hA⟩ : ∃ A, W0.heap.size = A := ⟨_, rfl⟩
  refine wpIn_rangeFunc_o hro (by omega) (gf := 98) (fs := #[]) (lb := #[.pointer (some ⟨b + 1, 0, none⟩)]) rfl (hF _) (enters_of Tryd.func98 (by kernel_rfl) rfl) hst (Below.refl _ _) (fun _ => rfl)
    (fun M pre W => ScI w b A M (way pre) W) (fun _ _ _ => False) ?hI0 ?hI (fun _ _ _ _ h _ => h)
    (fun M x a' W => ∃ g, a' = { tmps := #[.string s, undef, .string ⟨#[]⟩, .int .i64 0, .int .i64 0, .pointer (some ⟨b, 0, none⟩), .pointer (some ⟨g, 0, none⟩), .string s, .int .i64 0, .int .i64 0, .bool false, undef, .string s, .func (.func 98) #[] #[.pointer (some ⟨b + 1, 0, none⟩)], .agg #[.string ⟨x.1.toArray⟩, .int .u8 (wgB x.2)], undef, undef, undef, undef, undef, undef, undef], defers := [] } ∧ M ≤ g ∧ Blk W g 118 #[.string ⟨x.1.toArray⟩, .int .u8 ((wgU x.2).toNat : Int)])
    ?hAx ?hassign ?hbody ?hdone ?hstop
  case hI0 =>
    intro W1 h1 _
    exact ⟨HB0.out.trans (h1.mono HB0.out.size), ⟨_, kb.below h1 (by omega), OwnU.nil _ _, fun g hg => by cases hg⟩, hlo, by omega⟩
  case hI =>
    intro M pre W1 W2 h1 h2
    rw [hA] at h2
    exact h1.out h2
  case hAx =>
    rintro M x a' W1 W2 ⟨g, rfl, h1, h2⟩ ho
    exact ⟨g, rfl, h1, ho.blk h2 (by omega)⟩
  case hassign =>
    intro l M pre x W K hMW hI hK
    have HK := hide hK
    clear hK
    unfold sylE
    gi_wp2_with fail
    have hbn : Below W.heap.size W (W.alloc (.cells #[.string ⟨x.1.toArray⟩, .int .u8 (wgB x.2)] 118)) := (Below.refl _ _).alloc (Nat.le_refl _) _
    refine HK.out _ _ (KeepB.of_below hbn hMW) (hI.ext hbn) ⟨W.heap.size, rfl, hMW, ?_⟩
    rw [wgU_int]
    exact Blk.new W _ _
  case hbody =>
    rintro l M pre x a' W hM2 hMW hpre hI ⟨g, rfl, hg, hkg⟩
    obtain ⟨v, h1, h2, h3⟩ := hI.row
    obtain ⟨A1, c1, rfl⟩ := own_shape h2
    have hpl : pre.length ≤ 301 := by
      have := hpre.length_le
      simp at this
      have := HLL.out
      omega
    obtain ⟨v', w', hr, ho', hg', hv'⟩ := h2.push (wgU x.2) (by unfold way; rw [List.length_map]; omega) hI.low.size
    obtain ⟨A2, c2, rfl⟩ := own_shape ho'
    have hlen : (way pre ++ [wgU x.2]).length = (way pre).length + 1 := by simp
    rw [hlen] at ho' hr hv'
    clear hlen
    have hba : Below W.heap.size W (W.alloc (.cells #[.int .u8 ((wgU x.2).toNat : Int)] 5)) := (Below.refl _ _).alloc (Nat.le_refl _) _
    have hAb := hI.hi
    have hloB := hI.lo
    have hne : some b ≠ (Value.slice A1 (way pre).length c1).ownBlock := fun e => by
      have := h3 b e.symm
      omega
    have hkw : Blk w' b 113 #[.slice A1 (way pre).length c1] := (h1.ext hba).grown hg' hne
    have hsz1 : (W.alloc (.cells #[.int .u8 ((wgU x.2).toNat : Int)] 5)).heap.size = W.heap.size + 1 := by simp
    have hkk : KeepB A M W (w'.setCell ⟨b, 0, none⟩ (.slice A2 ((way pre).length + 1) c2)) := ((KeepB.of_below hba hMW).trans (KeepB.grown hg' (fun r e => by have := h3 r e; omega) (by omega))).trans (KeepB.set w' (by omega) 0 _)
    have hlow : Below w.heap.size w (w'.setCell ⟨b, 0, none⟩ (.slice A2 ((way pre).length + 1) c2)) := ((hI.low.trans (hba.mono hI.low.size)).trans ⟨hg'.os, hg'.tape, hg'.output, hg'.size, fun k hk => hg'.block k (by have := hI.low.size; omega) (fun e => by have := h3 k e.symm; omega)⟩).setCell hloB _
    have hIn : ScI w b A M (way (pre ++ [x])) (w'.setCell ⟨b, 0, none⟩ (.slice A2 ((way pre).length + 1) c2)) := by
      refine ⟨hlow, ⟨_, by simpa using hkw.set_ 0 (.slice A2 ((way pre).length + 1) c2), ?_, fun r e => ?_⟩, hloB, hAb⟩
      · have e1 : way (pre ++ [x]) = way pre ++ [wgU x.2] := by unfold way; simp
        rw [e1]
        exact ownsRow_setCell_other (a := ⟨b, 0, none⟩) ho' (own_blk_ne (g := b) ho' hkw (by decide)) _
      · rcases hv' with h5 | h5
        · rw [h5] at e
          exact h3 r e
        · rw [h5] at e
          injection e with e
          omega
    obtain ⟨c1l, c1c, c1f⟩ := blk1 h1
    obtain ⟨gl, g0, g1⟩ := bx2 hkg
    obtain ⟨bl, bc, bf⟩ := blk1 hkw
    have HR := hide hr
    have HKK := hide hkk
    have HIN := hide hIn
    clear hr ho' hg' hv' hba hne hkw hkk hlow hIn h1 h2 h3 hI hkg hpre hpl hst
    gi_wp2_with (gi_at_builtin; refine wpListIn_append_run hF rfl (.tmp 15) (.tmp 18) 113 rfl rfl rfl HR.out ?_)
    exact ⟨by rw [hA]; exact HKK.out, HIN.out⟩
  case hdone =>
    intro D M W hD hI hK
    obtain ⟨v, h1, h2, h3⟩ := hI.row
    have ht := h2.text (by unfold way; simp; exact syl_ne _ _ _ _)
    obtain ⟨e1, e2, e3⟩ := blk1 h1
    have hAb := hI.hi
    have hloB := hI.lo
    have hlow : Below w.heap.size w (W.putObj D (.deferred none)) := OutK.below hI.low (OutK.putObj W (a := A) (b := D + 1) (by omega) (by omega) _) (by omega) (Nat.le_refl _)
    have HLOW := hide hlow
    have HK := hide hK
    have HI := hide hI
    clear hlow hK hI h1 h2 h3 hst
    gi_wp2_with fail
    refine ⟨by simp, .inl ⟨_, _, rfl, run_takeDeferred HK.out, ?_⟩⟩
    exact ⟨.tuple #[.string ⟨(way (sylL L)).toArray⟩, .int .i64 0], by simp [results, Tryd.results33, go_sem], rfl, HLOW.out⟩
  case hstop =>
    intro D c pre W hD hSp h hK
    exact h.elim
end Go.Proofs.YtlkkkgpcjdemdaaDoor
/- Song: Split, walked. -/
namespace Go.Proofs.YtlkkkgpcjdemdaaDoor
open Go Go.RowKit Go.Shelf
attribute [local go_sem] Oper.semAt_some
set_option maxHeartbeats 8000000
set_option maxRecDepth 100000
theorem info_strS : (Tryd.prog.info? 9).map (fun i => (i.zero, i.size, i.bytes)) = some (some (.string noW), 1, 16) := by kernel_rfl
def strV (l : List Wd) : List Value := l.map .string
/-- an own list of words -/
def OwnW (W : World) (n0 : Nat) (v : Value) (l : List Wd) : Prop := W.ownsRow n0 9 1 v l.length (strV l)
theorem OwnW.nil (W : World) (n0 : Nat) : OwnW W n0 (.slice none 0 0) [] := ⟨rfl, .inl ⟨rfl, rfl⟩⟩
theorem OwnW.push {W : World} {base : Nat} {v : Value} {l : List Wd} (h : OwnW W base v l) (b : Wd) (hl : l.length ≤ 1000000) (hb : base ≤ W.heap.size) :
    ∃ v' w', (Builtin.append_ #[63, 63] 63 #[v, .slice (some ⟨W.heap.size, 0, none⟩) 1 1]).run Tryd.prog (W.alloc (.cells #[.string b] 9)) = .ok v' w' ∧ OwnW w' base v' (l ++ [b]) ∧
      (W.alloc (.cells #[.string b] 9)).grownBy w' v.ownBlock ∧ (v'.ownBlock = v.ownBlock ∨ v'.ownBlock = some (W.heap.size + 1)) := by
  obtain ⟨i0, hi, hz0, hz1, hz2⟩ := info_parts info_strS
  obtain ⟨v', w', hr, h2, h3, h4⟩ := own_push (P := Tryd.prog) 63 9 i0 _ 16 Tryd.underlying63 hi hz0 hz1 hz2 rfl h (.string b) rfl (by omega) (by unfold maxLen; omega) hb
  refine ⟨v', w', hr, ?_, h3, h4⟩
  unfold OwnW
  unfold strV at h2 ⊢
  rw [List.map_append, List.length_append]
  exact h2
/-- the texts of syllables -/
def txts (l : List Syl) : List Wd := l.map fun x => ⟨x.1.toArray⟩
/-- what Split keeps: w its start, b its box -/
structure SpI (w : World) (b A M : Nat) (l : List Wd) (W : World) : Prop where
  low : Below w.heap.size w W
  row : ∃ v, Blk W b 63 #[v] ∧ OwnW W w.heap.size v l ∧ ∀ g, v.ownBlock = some g → M ≤ g
  lo : w.heap.size ≤ b
  hi : b < A
theorem SpI.out {w W W' : World} {b A M : Nat} {l : List Wd} (h : SpI w b A M l W) (ho : OutK A M W W') : SpI w b A M l W' := by
  obtain ⟨v, h1, h2, h3⟩ := h.row
  have := h.lo
  have := h.hi
  exact ⟨ho.below h.low (by omega) (Nat.le_refl _), ⟨v, ho.blk h1 (by omega), ho.own h2 (fun g hg => by have := h3 g hg; omega), h3⟩, h.lo, h.hi⟩
theorem SpI.ext {w W W' : World} {b A M : Nat} {l : List Wd} (h : SpI w b A M l W) (hb : Below W.heap.size W W') : SpI w b A M l W' := h.out (OutK.of_below hb)
theorem split_ok (s : ByteArray) (L : List UInt8) (hl : s.data.toList = L) (w : World) (hs : s.size ≤ maxLen) (hM : ML w) (hc : chkE L = 0) :
    Calls Tryd.prog 32 #[.string s] w fun e w' => ∃ v, e = .returned (.tuple #[v, .int .i64 0]) ∧ OwnW w' w.heap.size v (txts (sylL L)) ∧ Below w.heap.size w w' := by
  refine (callsIn_wide (n := 9)).1 ?_
  obtain ⟨F, hFw⟩ : ∃ F : Fence, F = Fence.wide := ⟨_, rfl⟩
  rw [← hFw]
  have hF : ∀ f, F.fn f := by rw [hFw]; exact fun _ => trivial
  have hro : F.round = none := by rw [hFw]; rfl
  have hroom : ∀ j, F.room j := by rw [hFw]; exact fun _ => room_wide _
  have hwd : ∀ {n f args w R}, Calls Tryd.prog f args w R → CallsIn F n Tryd.prog f args w R := by rw [hFw]; exact fun h => callsIn_wide.2 h
  clear hFw
  have HCK := hide (check_any s L hl w hs hM)
  rw [hc] at HCK
  have HC := hide hc
  have HLL := hide (sylL_len hc)
  have HSQ := hide (fun p W (hp : W.cell? ⟨p, 0, none⟩ = some (.string s)) (h : ML W) => syl_seq F (9 - 1) hF hro hroom hwd (by omega) p s L hl hc W hp h)
  have HM := hide hM
  clear hl hs hM hc
  refine callsIn_of_wp_marks Tryd.func32 rfl (hF _) ?_ hro
  simp only [Tryd.ntmps32, List.size_toArray, List.length_cons, List.length_nil, Nat.reduceAdd, Nat.reduceSub, Array.replicate_succ, Array.replicate_zero, List.push_toArray, List.append_toArray, List.nil_append, List.cons_append]
  gi_wp2_with fail
  (with_reducible refine (hwd HCK.out).mono ?_)
  rintro e w1 ⟨rfl, hb1⟩
  have HB1 := hide hb1
  clear hb1
  gi_wp2_with fail
  (with_reducible refine (hwd (syllables_any s _)).mono ?_)
  rintro e w2 ⟨rfl, rfl⟩
  (try dsimp only)
  (repeat (first | go_values | gi_guarded | gi_step | gi_upon))
  simp only [World.size_alloc]
  have hbw : Below w1.heap.size w1 ((w1.alloc (.cells #[.slice none 0 0] 63)).alloc (.cells #[.string s] 9)) := ((Below.refl _ _).alloc (Nat.le_refl _) _).alloc (by simp) _
  have kb : Blk ((w1.alloc (.cells #[.slice none 0 0] 63)).alloc (.cells #[.string s] 9)) w1.heap.size 63 #[.slice none 0 0] := (Blk.new w1 _ _).alloc _
  have ks : ((w1.alloc (.cells #[.slice none 0 0] 63)).alloc (.cells #[.string s] 9)).cell? ⟨w1.heap.size + 1, 0, none⟩ = some (.string s) := by
    have := cell_new (w1.alloc (.cells #[.slice none 0 0] 63)) #[.string s] 9 0
    rw [World.size_alloc] at this
    exact this
  have hsz : ((w1.alloc (.cells #[.slice none 0 0] 63)).alloc (.cells #[.string s] 9)).heap.size = w1.heap.size + 2 := by simp
  have hml := HM.out.ext (HB1.out.trans (hbw.mono HB1.out.size))
  have HB0 := hide (HB1.out.trans (hbw.mono HB1.out.size))
  obtain ⟨b, hb⟩ : ∃ b, w1.heap.size = b := ⟨_, rfl⟩
  have hlo : w.heap.size ≤ b := by rw [← hb]; exact HB1.out.size
  rw [hb] at kb ks hsz ⊢
  generalize ((w1.alloc (.cells #[.slice none 0 0] 63)).alloc (.cells #[.string s] 9)) = W0 at kb ks hsz hml HB0 ⊢
  have hst := HSQ.out (b + 1) W0 ks hml
  clear hbw hb HSQ HM HCK
  obtain ⟨A, hA⟩ : ∃ A, W0.heap.size = A := ⟨_, rfl⟩
  refine wpIn_rangeFunc_o hro (by omega) (gf := 98) (fs := #[]) (lb := #[.pointer (some ⟨b + 1, 0, none⟩)]) rfl (hF _) (enters_of Tryd.func98 (by kernel_rfl) rfl) hst (Below.refl _ _) (fun _ => rfl)
    (fun M pre W => SpI w b A M (txts pre) W) (fun _ _ _ => False) ?hI0 ?hI (fun _ _ _ _ h _ => h)
    (fun M x a' W => ∃ g, a' = { tmps := #[.string s, undef, .slice none 0 0, .int .i64 0, .int .i64 0, .pointer (some ⟨b, 0, none⟩), .pointer (some ⟨g, 0, none⟩), .string s, .int .i64 0, .int .i64 0, .bool false, undef, .string s, .func (.func 98) #[] #[.pointer (some ⟨b + 1, 0, none⟩)], .agg #[.string ⟨x.1.toArray⟩, .int .u8 (wgB x.2)], undef, undef, undef, undef, undef, undef], defers := [] } ∧ M ≤ g ∧ Blk W g 118 #[.string ⟨x.1.toArray⟩, .int .u8 (wgB x.2)])
    ?hAx ?hassign ?hbody ?hdone ?hstop
  case hI0 =>
    intro W1 h1 _
    exact ⟨HB0.out.trans (h1.mono HB0.out.size), ⟨_, kb.below h1 (by omega), OwnW.nil _ _, fun g hg => by cases hg⟩, hlo, by omega⟩
  case hI =>
    intro M pre W1 W2 h1 h2
    rw [hA] at h2
    exact h1.out h2
  case hAx =>
    rintro M x a' W1 W2 ⟨g, rfl, h1, h2⟩ ho
    exact ⟨g, rfl, h1, ho.blk h2 (by omega)⟩
  case hassign =>
    intro l M pre x W K hMW hI hK
    have HK := hide hK
    clear hK
    unfold sylE
    gi_wp2_with fail
    have hbn : Below W.heap.size W (W.alloc (.cells #[.string ⟨x.1.toArray⟩, .int .u8 (wgB x.2)] 118)) := (Below.refl _ _).alloc (Nat.le_refl _) _
    refine HK.out _ _ (KeepB.of_below hbn hMW) (hI.ext hbn) ⟨W.heap.size, rfl, hMW, ?_⟩
    exact Blk.new W _ _
  case hbody =>
    rintro l M pre x a' W hM2 hMW hpre hI ⟨g, rfl, hg, hkg⟩
    obtain ⟨v, h1, h2, h3⟩ := hI.row
    obtain ⟨A1, c1, rfl⟩ := own_shape h2
    have hpl : pre.length ≤ 301 := by
      have := hpre.length_le
      simp at this
      have := HLL.out
      omega
    obtain ⟨v', w', hr, ho', hg', hv'⟩ := h2.push (⟨x.1.toArray⟩ : Wd) (by unfold txts; rw [List.length_map]; omega) hI.low.size
    obtain ⟨A2, c2, rfl⟩ := own_shape ho'
    have hlen : (txts pre ++ [(⟨x.1.toArray⟩ : Wd)]).length = (txts pre).length + 1 := by simp
    rw [hlen] at ho' hr hv'
    clear hlen
    have hba : Below W.heap.size W (W.alloc (.cells #[.string ⟨x.1.toArray⟩] 9)) := (Below.refl _ _).alloc (Nat.le_refl _) _
    have hAb := hI.hi
    have hloB := hI.lo
    have hne : some b ≠ (Value.slice A1 (txts pre).length c1).ownBlock := fun e => by
      have := h3 b e.symm
      omega
    have hkw : Blk w' b 63 #[.slice A1 (txts pre).length c1] := (h1.ext hba).grown hg' hne
    have hsz1 : (W.alloc (.cells #[.string ⟨x.1.toArray⟩] 9)).heap.size = W.heap.size + 1 := by simp
    have hkk : KeepB A M W (w'.setCell ⟨b, 0, none⟩ (.slice A2 ((txts pre).length + 1) c2)) := ((KeepB.of_below hba hMW).trans (KeepB.grown hg' (fun r e => by have := h3 r e; omega) (by omega))).trans (KeepB.set w' (by omega) 0 _)
    have hlow : Below w.heap.size w (w'.setCell ⟨b, 0, none⟩ (.slice A2 ((txts pre).length + 1) c2)) := ((hI.low.trans (hba.mono hI.low.size)).trans ⟨hg'.os, hg'.tape, hg'.output, hg'.size, fun k hk => hg'.block k (by have := hI.low.size; omega) (fun e => by have := h3 k e.symm; omega)⟩).setCell hloB _
    have hIn : SpI w b A M (txts (pre ++ [x])) (w'.setCell ⟨b, 0, none⟩ (.slice A2 ((txts pre).length + 1) c2)) := by
      refine ⟨hlow, ⟨_, by simpa using hkw.set_ 0 (.slice A2 ((txts pre).length + 1) c2), ?_, fun r e => ?_⟩, hloB, hAb⟩
      · have e1 : txts (pre ++ [x]) = txts pre ++ [(⟨x.1.toArray⟩ : Wd)] := by unfold txts; simp
        rw [e1]
        exact ownsRow_setCell_other (a := ⟨b, 0, none⟩) ho' (own_blk_ne (g := b) ho' hkw (by decide)) _
      · rcases hv' with h5 | h5
        · rw [h5] at e
          exact h3 r e
        · rw [h5] at e
          injection e with e
          omega
    obtain ⟨c1l, c1c, c1f⟩ := blk1 h1
    obtain ⟨gl, g0, g1⟩ := bx2 hkg
    obtain ⟨bl, bc, bf⟩ := blk1 hkw
    have HR := hide hr
    have HKK := hide hkk
    have HIN := hide hIn
    clear hr ho' hg' hv' hba hne hkw hkk hlow hIn h1 h2 h3 hI hkg hpre hpl hst
    gi_wp2_with (gi_at_builtin; refine wpListIn_append_run hF rfl (.tmp 15) (.tmp 18) 63 rfl rfl rfl HR.out ?_)
    exact ⟨by rw [hA]; exact HKK.out, HIN.out⟩
  case hdone =>
    intro D M W hD hI hK
    obtain ⟨v, h1, h2, h3⟩ := hI.row
    obtain ⟨A3, c3, rfl⟩ := own_shape h2
    obtain ⟨e1, e2, e3⟩ := blk1 h1
    have hAb := hI.hi
    have hloB := hI.lo
    have hlow : Below w.heap.size w (W.putObj D (.deferred none)) := OutK.below hI.low (OutK.putObj W (a := A) (b := D + 1) (by omega) (by omega) _) (by omega) (Nat.le_refl _)
    have how : OwnW (W.putObj D (.deferred none)) w.heap.size (.slice A3 (txts (sylL L)).length c3) (txts (sylL L)) := ownN h2 (grownBy_putObj' W D _) (fun r e => by cases e; exact ⟨_, hK, rfl⟩)
    have HLOW := hide hlow
    have HOW := hide how
    have HK := hide hK
    clear hlow how hK hI h1 h2 h3 hst
    gi_wp2_with fail
    refine ⟨by simp, .inl ⟨_, _, rfl, run_takeDeferred HK.out, ?_⟩⟩
    exact ⟨.tuple #[.slice A3 (txts (sylL L)).length c3, .int .i64 0], by simp [results, Tryd.results32, go_sem], _, rfl, HOW.out, HLOW.out⟩
  case hstop =>
    intro D c pre W hD hSp h hK
    exact h.elim
theorem scan_any (s : ByteArray) (L : List UInt8) (hl : s.data.toList = L) (w : World) (hs : s.size ≤ maxLen) (hM : ML w) :
    Calls Tryd.prog 33 #[.string s] w fun e w' => e = .returned (.tuple #[.string ⟨(scnT L).toArray⟩, .int .i64 (chkE L)]) ∧ Below w.heap.size w w' := by
  by_cases hc : chkE L = 0
  · unfold scnT
    rw [if_pos hc, hc]
    exact scan_ok s L hl w hs hM hc
  · have HCK := hide (check_any s L hl w hs hM)
    unfold scnT
    rw [if_neg hc]
    obtain ⟨E, hE⟩ : ∃ E, chkE L = E := ⟨_, rfl⟩
    rw [hE] at HCK hc ⊢
    clear hE hl hs hM
    go_enter Tryd.func33, Tryd.ntmps33
    go_wp2_with fail
    refine HCK.out.mono ?_
    rintro e w2 ⟨rfl, hb⟩
    go_wp2_with fail
    go_ret2
    exact ⟨rfl, hb⟩
/-- the syllables that Split returns -/
def splT (L : List UInt8) : List Wd := if chkE L = 0 then txts (sylL L) else []
def SplPost (L : List UInt8) (w : World) (e : Ending) (w' : World) : Prop := ∃ v, e = .returned (.tuple #[v, .int .i64 (chkE L)]) ∧ OwnW w' w.heap.size v (splT L) ∧ Below w.heap.size w w'
theorem split_any (s : ByteArray) (L : List UInt8) (hl : s.data.toList = L) (w : World) (hs : s.size ≤ maxLen) (hM : ML w) :
    Calls Tryd.prog 32 #[.string s] w (SplPost L w) := by
  unfold SplPost
  by_cases hc : chkE L = 0
  · unfold splT
    rw [if_pos hc, hc]
    exact split_ok s L hl w hs hM hc
  · have HCK := hide (check_any s L hl w hs hM)
    unfold splT
    rw [if_neg hc]
    obtain ⟨E, hE⟩ : ∃ E, chkE L = E := ⟨_, rfl⟩
    rw [hE] at HCK hc ⊢
    clear hE hl hs hM
    obtain ⟨R, hR⟩ : ∃ R : Ending → World → Prop, (fun e w' => ∃ v, e = Ending.returned (.tuple #[v, .int .i64 E]) ∧ OwnW w' w.heap.size v [] ∧ Below w.heap.size w w') = R := ⟨_, rfl⟩
    have HR : Hid (∀ w2, Below w.heap.size w w2 → R (.returned (.tuple #[.slice none 0 0, .int .i64 E])) w2) := hide (fun w2 hb => by rw [← hR]; exact ⟨_, rfl, OwnW.nil _ _, hb⟩)
    rw [hR]
    clear hR
    go_enter Tryd.func32, Tryd.ntmps32
    go_wp2_with fail
    refine HCK.out.mono ?_
    rintro e w2 ⟨rfl, hb⟩
    go_wp2_with fail
    exact HR.out _ hb
/-- units of weights -/
def unF (l : List UInt8) : Int := l.length + l.count 103
theorem units_any (s : ByteArray) (l : List UInt8) (hl : s.data.toList = l) (hs : s.size ≤ 1000000) (w : World) :
    Calls Tryd.prog 60 #[.string s] w fun e w' => e = .returned (.int .i64 (unF l)) ∧ w = w' := by
  have hlen := size_len hl
  have HC : Hid (∀ W, Calls Tryd.prog 103 #[.string s, .string ⟨#[103]⟩] W fun e w' => e = .returned (.int .i64 ((l.count 103 : Nat) : Int)) ∧ W = w') := hide (fun W => by
    refine (Any.strings_Count_one lays138 s 103 W).mono ?_
    rintro e w' ⟨rfl, rfl⟩
    rw [hl]
    exact ⟨rfl, rfl⟩)
  have hcn : l.count 103 ≤ l.length := List.count_le_length
  obtain ⟨n, hn⟩ : ∃ n, l.count 103 = n := ⟨_, rfl⟩
  unfold unF
  rw [hn, hlen]
  rw [hn] at HC hcn
  rw [hlen] at hcn
  clear hn hl hlen
  go_enter Tryd.func60, Tryd.ntmps60
  go_wp2_with fail
  refine (HC.out _).mono ?_
  rintro e w2 ⟨rfl, rfl⟩
  go_wp2_with fail
  go_ret
  exact ⟨rfl, rfl⟩
theorem way_len {L : List UInt8} : (scnT L).length ≤ 301 := by
  unfold scnT
  split
  · rename_i h
    have := sylL_len h
    unfold way; rw [List.length_map]; exact this
  · simp
theorem Units_any (s : ByteArray) (L : List UInt8) (hl : s.data.toList = L) (w : World) (hs : s.size ≤ maxLen) (hM : ML w) :
    Calls Tryd.prog 34 #[.string s] w fun e w' => e = .returned (.tuple #[.int .i64 ((scnT L).length : Int), .int .i64 (unF (scnT L)), .int .i64 (chkE L)]) ∧ Below w.heap.size w w' := by
  have HSC := hide (scan_any s L hl w hs hM)
  have hw := way_len (L := L)
  have HUN := hide (fun W => units_any ⟨(scnT L).toArray⟩ (scnT L) (by simp) (by rw [sizeA]; omega) W)
  have hz := sizeA (scnT L)
  obtain ⟨X, hX⟩ : ∃ X : ByteArray, (⟨(scnT L).toArray⟩ : ByteArray) = X := ⟨_, rfl⟩
  obtain ⟨U, hU⟩ : ∃ U, unF (scnT L) = U := ⟨_, rfl⟩
  obtain ⟨E, hE⟩ : ∃ E, chkE L = E := ⟨_, rfl⟩
  rw [hX] at HSC HUN hz
  rw [hU] at HUN ⊢
  rw [hE] at HSC ⊢
  rw [← hz] at hw ⊢
  clear hX hU hE hz hl hs hM
  go_enter Tryd.func34, Tryd.ntmps34
  go_wp2_with fail
  refine HSC.out.mono ?_
  rintro e w2 ⟨rfl, hb⟩
  go_wp2_with fail
  refine (HUN.out _).mono ?_
  rintro e w3 ⟨rfl, rfl⟩
  go_wp2_with fail
  go_ret3
  exact ⟨rfl, hb⟩
end Go.Proofs.YtlkkkgpcjdemdaaDoor
/- Song: portions: check, divisor, whole, walked. -/
namespace Go.Proofs.YtlkkkgpcjdemdaaDoor
open Go Go.RowKit Go.Shelf
set_option maxHeartbeats 2000000
set_option maxRecDepth 100000
/-- a list of portions that is read -/
def PoR (w : World) (B : Nat) (A : Option Addr) (l : List (Int × Int)) : Prop := PI w B A l.length (fun k => (l.getD k (0, 0)).1) (fun k => (l.getD k (0, 0)).2)
theorem PoR.below {w w' : World} {B B' : Nat} {A : Option Addr} {l : List (Int × Int)} (h : PoR w B A l) (hb : Below B' w w') (hB : B ≤ B') : PoR w' B A l := P2.below h hb hB
theorem PoR.more {w : World} {B B' : Nat} {A : Option Addr} {l : List (Int × Int)} (h : PoR w B A l) (hB : B ≤ B') : PoR w B' A l := P2.more h hB
def poB (x : Int × Int) : Bool := decide (1 ≤ x.1) && (decide (x.1 ≤ x.2) && decide (x.2 ≤ 1000000))
theorem poB_iff {x : Int × Int} : poB x = true ↔ 1 ≤ x.1 ∧ x.1 ≤ x.2 ∧ x.2 ≤ 1000000 := by unfold poB; simp
theorem badPo_any (x : Int × Int) (w : World) : Calls Tryd.prog 84 #[.agg #[.int .i64 x.1, .int .i64 x.2]] w fun e w' => e = .returned (.bool (!poB x)) ∧ Below w.heap.size w w' := by
  obtain ⟨a, b⟩ := x
  dsimp only
  rcases hp : poB (a, b) with _ | _
  · have hn : ¬ (1 ≤ a ∧ a ≤ b ∧ b ≤ 1000000) := fun h => by rw [poB_iff.2 h] at hp; cases hp
    clear hp
    by_cases h1 : a < 1
    · go_enter Tryd.func84, Tryd.ntmps84
      go_wp2_with fail
      go_ret
      exact ⟨rfl, (Below.refl _ _).alloc (Nat.le_refl _) _⟩
    · by_cases h2 : b < a
      · go_enter Tryd.func84, Tryd.ntmps84
        go_wp2_with fail
        go_ret
        exact ⟨rfl, (Below.refl _ _).alloc (Nat.le_refl _) _⟩
      · have h3 : 1000000 < b := by omega
        go_enter Tryd.func84, Tryd.ntmps84
        go_wp2_with fail
        go_ret
        exact ⟨rfl, (Below.refl _ _).alloc (Nat.le_refl _) _⟩
  · obtain ⟨h1, h2, h3⟩ := poB_iff.1 hp
    dsimp only at h1 h2 h3
    have h1' : ¬ a < 1 := by omega
    have h2' : ¬ b < a := by omega
    have h3' : ¬ 1000000 < b := by omega
    clear hp
    go_enter Tryd.func84, Tryd.ntmps84
    go_wp2_with fail
    go_ret
    exact ⟨rfl, (Below.refl _ _).alloc (Nat.le_refl _) _⟩
theorem indexPo_any (A : Option Addr) (c : Nat) (l : List (Int × Int)) (w : World) (hn : l.length ≤ maxLen) (hR : PoR w w.heap.size A l) :
    Calls Tryd.prog 113 #[.slice A l.length c, .func (.func 84) #[] #[]] w fun e w' => e = .returned (.int .i64 (idx (fun k => !poB (l.getD k (0, 0))) l.length)) ∧ Below w.heap.size w w' := by
  unfold maxLen at hn
  have eg : ∀ args w, (callFunc 84 args).run Tryd.prog w = .ok (.enter 84 args) w := enters_of Tryd.func84 (by kernel_rfl) rfl
  have HP := hide (fun W k => badPo_any (l.getD k (0, 0)) W)
  obtain ⟨n, hln⟩ : ∃ n, l.length = n := ⟨_, rfl⟩
  have HR := hide (fun W (h : Below w.heap.size w W) => hR.below h (Nat.le_refl _))
  have HLN := hide hln
  obtain ⟨p, hp⟩ : ∃ p : Nat → Bool, (fun k => !poB (l.getD k (0, 0))) = p := ⟨_, rfl⟩
  have HPP := hide (fun k => congrFun hp k)
  rw [hp, hln]
  rw [hln] at hn
  clear hln hp hR
  go_enter Tryd.func113, Tryd.ntmps113
  go_wp2
  go_loopw [8] (fun i wr => ∃ k : Nat, k ≤ n ∧ i = .int .i64 k ∧ Hid (idx p k = -1) ∧ Below w.heap.size w wr) (fun i _ => n - (intOf i).toNat)
  case atStart => exact ⟨0, Nat.zero_le _, rfl, hide rfl, Below.refl _ _⟩
  case round =>
    obtain ⟨k, hk, rfl, HX, hB⟩ := hrel
    by_cases hlt : k < n
    · obtain ⟨b, off, rfl, hb, c1, c2⟩ := PI.at_ (HR.out _ hB) (k := k) (by rw [HLN.out]; exact hlt)
      have H := HP.out wr k
      rw [HPP.out k] at H
      obtain ⟨x, hx⟩ : ∃ x, l.getD k (0, 0) = x := ⟨_, rfl⟩
      rw [hx] at H c1 c2
      have H' := hide H
      clear H hx
      cases hpk : p k with
      | true =>
        have hpk' := hide hpk
        rw [hpk] at H'
        clear hpk
        go_wp2_with ((with_reducible refine H'.out.mono ?_); rintro e w' ⟨rfl, hb1⟩)
        go_ret
        refine ⟨ret_int ?_, hB.trans (hb1.mono hB.size)⟩
        rw [idx_stable p (k+1) n (by simp [idx, HX.out, hpk'.out]) (by omega)]
        simp [idx, HX.out, hpk'.out]
      | false =>
        have hpk' := hide hpk
        rw [hpk] at H'
        clear hpk
        go_wp2_with ((with_reducible refine H'.out.mono ?_); rintro e w' ⟨rfl, hb1⟩)
        go_roundw
        case rel => exact ⟨k + 1, by omega, by go_num, hide (by simp [idx, HX.out, hpk'.out]), hB.trans (hb1.mono hB.size)⟩
        case measure => simp [intOf]; omega
    · obtain rfl : k = n := by omega
      go_wp2
      go_ret
      exact ⟨ret_int HX.out.symm, hB⟩
theorem anyPo (l : List (Int × Int)) : anyTo (fun k => !poB (l.getD k (0, 0))) l.length = !l.all poB := by
  rw [Bool.eq_iff_iff, anyTo_iff]
  constructor
  · rintro ⟨k, hk, h⟩
    rw [Bool.not_eq_true', ← Bool.not_eq_true]
    intro e
    have := List.all_eq_true.1 e (l.getD k (0, 0)) (by rw [List.getD_eq_getElem?_getD, List.getElem?_eq_getElem hk]; exact List.getElem_mem hk)
    rw [this] at h; cases h
  · intro h
    rw [Bool.not_eq_true', ← Bool.not_eq_true] at h
    apply Classical.byContradiction
    intro hn
    apply h
    rw [List.all_eq_true]
    intro x hx
    obtain ⟨k, hk, rfl⟩ := List.getElem_of_mem hx
    rcases hb : poB l[k] with _ | _
    · exact absurd ⟨k, hk, by rw [List.getD_eq_getElem?_getD, List.getElem?_eq_getElem hk]; show (!poB l[k]) = true; rw [hb]; rfl⟩ hn
    · rfl
theorem containsPo_any (A : Option Addr) (c : Nat) (l : List (Int × Int)) (w : World) (hn : l.length ≤ maxLen) (hR : PoR w w.heap.size A l) :
    Calls Tryd.prog 83 #[.slice A l.length c, .func (.func 84) #[] #[]] w fun e w' => e = .returned (.bool (!l.all poB)) ∧ Below w.heap.size w w' := by
  have H := hide (indexPo_any A c l w hn hR)
  have e := idx_any (fun k => !poB (l.getD k (0, 0))) l.length
  rw [anyPo] at e
  have HE := hide e
  clear hR hn e
  generalize idx (fun k => !poB (l.getD k (0, 0))) l.length = i at H HE
  generalize l.all poB = b at HE ⊢
  generalize l.length = n at H ⊢
  go_enter Tryd.func83, Tryd.ntmps83
  go_wp2_with ((with_reducible refine H.out.mono ?_); rintro e w' ⟨rfl, hb1⟩)
  go_ret
  exact ⟨ret_bool HE.out, hb1⟩
/-- the error of portions -/
def poE (l : List (Int × Int)) : Int := if 20 < l.length then 5 else if l.all poB = true then 0 else 2
theorem checkPo_any (A : Option Addr) (c : Nat) (l : List (Int × Int)) (w : World) (hn : l.length ≤ maxLen) (hR : PoR w w.heap.size A l) :
    Calls Tryd.prog 51 #[.slice A l.length c] w fun e w' => e = .returned (.int .i64 (poE l)) ∧ Below w.heap.size w w' := by
  have H := hide (containsPo_any A c l w hn hR)
  unfold poE
  unfold maxLen at hn
  generalize l.all poB = b at H ⊢
  clear hR
  generalize l.length = n at H hn ⊢
  by_cases h : 20 < n
  · rw [if_pos h]
    have h' : (20 : Int) < (n : Int) := by omega
    go_enter Tryd.func51, Tryd.ntmps51
    go_wp2_with fail
    go_ret
    exact ⟨rfl, Below.refl _ _⟩
  · rw [if_neg h]
    have h' : ¬ (20 : Int) < (n : Int) := by omega
    rcases b with _ | _
    · rw [if_neg Bool.false_ne_true]
      go_enter Tryd.func51, Tryd.ntmps51
      go_wp2_with fail
      refine H.out.mono ?_
      rintro e w2 ⟨rfl, hb⟩
      go_wp2_with fail
      go_ret
      exact ⟨rfl, hb⟩
    · rw [if_pos rfl]
      go_enter Tryd.func51, Tryd.ntmps51
      go_wp2_with fail
      refine H.out.mono ?_
      rintro e w2 ⟨rfl, hb⟩
      go_wp2_with fail
      go_ret
      exact ⟨rfl, hb⟩
end Go.Proofs.YtlkkkgpcjdemdaaDoor
/- Song: the divisor and the least herd, walked. -/
namespace Go.Proofs.YtlkkkgpcjdemdaaDoor
open Go Go.RowKit Go.Shelf
set_option maxHeartbeats 4000000
set_option maxRecDepth 100000
theorem divisor_q (a b : Nat) (w : World) : Calls Tryd.prog 85 #[.int .i64 (a : Int), .int .i64 (b : Int)] w fun e w' => e = .returned (.int .i64 (Nat.gcd a b : Nat)) ∧ ∃ m, w' = w.drewN m := by
  obtain ⟨G, hG⟩ : ∃ G, Nat.gcd a b = G := ⟨_, rfl⟩
  rw [hG]
  have HG := hide hG
  clear hG
  go_enter Tryd.func85, Tryd.ntmps85
  go_wp2_with fail
  go_loopw [0, 1] (fun x y wr => ∃ a b : Nat, x = .int .i64 (a : Int) ∧ y = .int .i64 (b : Int) ∧ Hid (Nat.gcd a b = G) ∧ Hid (∃ m, wr = w.drewN m)) (fun _ y _ => (intOf y).toNat)
  case atStart => exact ⟨a, b, rfl, rfl, HG, hide ⟨0, rfl⟩⟩
  case round =>
    obtain ⟨x, y, rfl, rfl, HX, HB⟩ := hrel
    clear HG
    by_cases hy : y = 0
    · subst hy
      have HR : Hid (x = G) := hide (by rw [← HX.out]; simp)
      go_wp2_with fail
      go_ret
      exact ⟨ret_int (by rw [HR.out]), HB.out⟩
    · have h1 : ((y : Int) == 0) = false := by rw [beq_eq_false_iff_ne]; omega
      have h2 : ¬ (y : Int) = 0 := by omega
      have h3 : ((x : Int)).tmod (y : Int) = ((x % y : Nat) : Int) := by rw [Int.tmod_eq_emod_of_nonneg (by omega)]; simp
      have h4 : (x : Int) % (y : Int) = ((x % y : Nat) : Int) := by simp
      have hlt : x % y < y := Nat.mod_lt _ (by omega)
      have HX2 : Hid (Nat.gcd y (x % y) = G) := hide (by rw [← HX.out, Nat.gcd_comm y, ← Nat.gcd_rec, Nat.gcd_comm])
      have HLT := hide hlt
      obtain ⟨m, hm⟩ : ∃ m, x % y = m := ⟨_, rfl⟩
      rw [hm] at h3 h4 HX2 HLT
      clear hm hlt HX hy
      go_wp2_with fail
      go_quiet (fail)
      rename_i nq
      have HB2 : Hid (∃ m, wr.drewN nq = w.drewN m) := hide (by obtain ⟨m, hm⟩ := HB.out; exact ⟨m + nq, by rw [hm, World.drewN_drewN]⟩)
      go_wp2_with fail
      go_roundw
      case rel => exact ⟨y, m, rfl, by first | rfl | (simp; done), HX2, HB2⟩
      case measure => have := HLT.out; simp [intOf]; omega
theorem divisor_any (a b : Nat) (w : World) : Calls Tryd.prog 85 #[.int .i64 (a : Int), .int .i64 (b : Int)] w fun e w' => e = .returned (.int .i64 (Nat.gcd a b : Nat)) ∧ Below w.heap.size w w' :=
  (divisor_q a b w).mono fun _ _ ⟨h, m, hm⟩ => ⟨h, by rw [hm]; exact Below_dN (Below.refl _ _) m⟩
/-- the denominator in lowest terms -/
def dnF (x : Int × Int) : Nat := x.2.toNat / Nat.gcd x.1.toNat x.2.toNat
/-- the least herd of the first k portions -/
def whN (l : List (Int × Int)) : Nat → Nat
  | 0 => 1
  | k + 1 => Nat.lcm (whN l k) (dnF (l.getD k (0, 0)))
theorem dn_pos {x : Int × Int} (h : poB x = true) : 1 ≤ dnF x ∧ dnF x ≤ 1000000 := by
  obtain ⟨h1, h2, h3⟩ := poB_iff.1 h
  unfold dnF
  have hg := Nat.gcd_le_right x.1.toNat (show 0 < x.2.toNat by omega)
  have hp := Nat.gcd_pos_of_pos_right x.1.toNat (show 0 < x.2.toNat by omega)
  exact ⟨Nat.div_pos hg hp, Nat.le_trans (Nat.div_le_self _ _) (by omega)⟩
theorem lcm_eq (n d : Nat) : n / Nat.gcd n d * d = Nat.lcm n d := by
  unfold Nat.lcm
  rw [Nat.div_mul_right_comm (Nat.gcd_dvd_left n d)]
theorem wh_pos {l : List (Int × Int)} (h : l.all poB = true) : ∀ k, k ≤ l.length → 1 ≤ whN l k
  | 0, _ => Nat.le_refl _
  | k + 1, hk => by
    have h1 := wh_pos h k (by omega)
    have h2 := dn_pos (List.all_eq_true.1 h (l.getD k (0, 0)) (by rw [List.getD_eq_getElem?_getD, List.getElem?_eq_getElem (by omega)]; exact List.getElem_mem (by omega)))
    exact Nat.lcm_pos h1 h2.1
theorem wh_mono {l : List (Int × Int)} (h : l.all poB = true) {j k : Nat} (hjk : j ≤ k) (hk : k ≤ l.length) : whN l j ≤ whN l k := by
  induction k with
  | zero => obtain rfl : j = 0 := by omega
            exact Nat.le_refl _
  | succ k ih =>
    rcases (by omega : j ≤ k ∨ j = k + 1) with h1 | rfl
    · refine Nat.le_trans (ih h1 (by omega)) ?_
      exact Nat.le_of_dvd (wh_pos h (k + 1) hk) (Nat.dvd_lcm_left _ _)
    · exact Nat.le_refl _
theorem whole_any (A : Option Addr) (c : Nat) (l : List (Int × Int)) (most : Nat) (w : World) (hl : l.all poB = true) (hn : l.length ≤ 20) (hm : most ≤ 2000000000) (hm1 : 1 ≤ most) (hR : PoR w w.heap.size A l) :
    Calls Tryd.prog 52 #[.slice A l.length c, .int .i64 (most : Int)] w fun e w' => e = .returned (.tuple #[.int .i64 (if whN l l.length ≤ most then (whN l l.length : Int) else 0), .bool (decide (whN l l.length ≤ most))]) ∧ Below w.heap.size w w' := by
  have HR := hide (fun W (h : Below w.heap.size w W) => hR.below h (Nat.le_refl _))
  have HPO := hide (fun k (hk : k < l.length) => List.all_eq_true.1 hl (l.getD k (0, 0)) (by rw [List.getD_eq_getElem?_getD, List.getElem?_eq_getElem hk]; exact List.getElem_mem hk))
  have HMO := hide (fun k (hk : k ≤ l.length) => wh_mono hl hk (Nat.le_refl _))
  have HWP := hide (fun k (hk : k ≤ l.length) => wh_pos hl k hk)
  obtain ⟨n, hln⟩ : ∃ n, l.length = n := ⟨_, rfl⟩
  obtain ⟨R, hRR⟩ : ∃ R : Ending, Ending.returned (.tuple #[.int .i64 (if whN l l.length ≤ most then (whN l l.length : Int) else 0), .bool (decide (whN l l.length ≤ most))]) = R := ⟨_, rfl⟩
  have HNO : Hid (most < whN l l.length → R = .returned (.tuple #[.int .i64 0, .bool false])) := hide (fun h => by rw [← hRR, if_neg (by omega), decide_eq_false (by omega)])
  have HYE : Hid (whN l l.length ≤ most → R = .returned (.tuple #[.int .i64 (whN l l.length : Nat), .bool true])) := hide (fun h => by rw [← hRR, if_pos h, decide_eq_true h])
  rw [hRR]
  rw [hln] at HPO HMO HWP HNO HYE hn ⊢
  have HLN := hide hln
  clear hln hRR hR hl
  go_enter Tryd.func52, Tryd.ntmps52
  go_wp2_with fail
  go_loopw [6, 12] (fun v i wr => ∃ (k : Nat) (m : Nat), k ≤ n ∧ i = .int .i64 k ∧ v = .int .i64 (m : Int) ∧ m ≤ most ∧ Hid (m = whN l k) ∧ Hid (Below w.heap.size w wr)) (fun _ i _ => n - (intOf i).toNat)
  case atStart => exact ⟨0, 1, Nat.zero_le _, rfl, rfl, hm1, hide rfl, hide (Below.refl _ _)⟩
  case round =>
    obtain ⟨k, m, hk, rfl, rfl, hmm, HMK, HB⟩ := hrel
    by_cases hlt : k < n
    · obtain ⟨b, off, rfl, hb, c1, c2⟩ := PI.at_ (HR.out _ HB.out) (k := k) (by rw [HLN.out]; exact hlt)
      have hpo := HPO.out k hlt
      have hdn := dn_pos hpo
      have hsu : Nat.lcm m (dnF (l.getD k (0, 0))) = whN l (k + 1) := by rw [HMK.out]; rfl
      have hm0 : 1 ≤ m := by rw [HMK.out]; exact HWP.out k (by omega)
      obtain ⟨x, hx⟩ : ∃ x, l.getD k (0, 0) = x := ⟨_, rfl⟩
      rw [hx] at c1 c2 hpo hdn hsu
      obtain ⟨p1, p2, p3⟩ := poB_iff.1 hpo
      obtain ⟨a, ha⟩ := Int.eq_ofNat_of_zero_le (show 0 ≤ x.1 by omega)
      obtain ⟨q, hq⟩ := Int.eq_ofNat_of_zero_le (show 0 ≤ x.2 by omega)
      rw [ha] at c1 p1 p2
      rw [hq] at c2 p2 p3
      have hd : dnF x = q / Nat.gcd a q := by unfold dnF; rw [ha, hq]; rfl
      have hgp : 0 < Nat.gcd a q := Nat.gcd_pos_of_pos_right a (by omega)
      have HD1 := hide (fun W => divisor_q a q W)
      obtain ⟨g, hg⟩ : ∃ g, Nat.gcd a q = g := ⟨_, rfl⟩
      rw [hg] at hd hgp HD1
      obtain ⟨d, hd2⟩ : ∃ d, q / g = d := ⟨_, rfl⟩
      have t1 : ((q : Int)).tdiv (g : Int) = (d : Int) := by rw [Int.tdiv_eq_ediv_of_nonneg (by omega), ← hd2]; simp
      have t1' : (q : Int) / (g : Int) = (d : Int) := by rw [← hd2]; simp
      rw [hd2] at hd
      rw [hd] at hsu hdn
      have HD2 := hide (fun W => divisor_any m d W)
      have hg2 : 0 < Nat.gcd m d := Nat.gcd_pos_of_pos_left d (by omega)
      have hlc := lcm_eq m d
      obtain ⟨g2, hgg⟩ : ∃ g, Nat.gcd m d = g := ⟨_, rfl⟩
      rw [hgg] at HD2 hg2 hlc
      obtain ⟨y, hy⟩ : ∃ y, m / g2 = y := ⟨_, rfl⟩
      have hym : y ≤ m := by rw [← hy]; exact Nat.div_le_self _ _
      have t2 : ((m : Int)).tdiv (g2 : Int) = (y : Int) := by rw [Int.tdiv_eq_ediv_of_nonneg (by omega), ← hy]; simp
      have t2' : (m : Int) / (g2 : Int) = (y : Int) := by rw [← hy]; simp
      rw [hy, hsu] at hlc
      have hmb := mul_bd (show (0 : Int) ≤ (y : Int) by omega) (show (y : Int) ≤ 2000000000 by omega) (show (0 : Int) ≤ (d : Int) by omega) (show (d : Int) ≤ 1000000 by omega)
      obtain ⟨z, hz⟩ : ∃ z, y * d = z := ⟨_, rfl⟩
      have t3 : (y : Int) * (d : Int) = (z : Int) := by rw [← hz]; simp
      rw [t3] at hmb
      have w1 : IntKind.i64.wrap ((y : Int) * (d : Int)) = (z : Int) := by rw [t3]; exact IntWalk.i64_in _ (by omega)
      have w2 : IntKind.i64.wrap (d : Int) = (d : Int) := IntWalk.i64_in _ (by omega)
      have w3 : IntKind.i64.wrap (y : Int) = (y : Int) := IntWalk.i64_in _ (by omega)
      have HZ : Hid (z = whN l (k + 1)) := hide (by rw [← hz, hlc])
      have z1 : ((g : Int) == 0) = false := by rw [beq_eq_false_iff_ne]; omega
      have z2 : ((g2 : Int) == 0) = false := by rw [beq_eq_false_iff_ne]; omega
      have z3 : ¬ (g : Int) = 0 := by omega
      have z4 : ¬ (g2 : Int) = 0 := by omega
      clear hx hpo hd hd2 hg hgg hy hsu hlc hz ha hq
      have HBa := hide (HB.out.trans (((Below.refl wr.heap.size wr).alloc (Nat.le_refl _) (.cells #[.int .i64 (a : Int), .int .i64 (q : Int)] 37)).mono HB.out.size))
      go_upto_region 5 with fail
      go_quiet ((go_at_call 85; exact Calls.quiet_of (HD1.out _)))
      rename_i nq
      have HBb := hide (Below_dN HBa.out nq)
      generalize ((wr.alloc (.cells #[.int .i64 (a : Int), .int .i64 (q : Int)] 37)).drewN nq) = w5 at HBb ⊢
      have HZM : Hid (most < z → most < whN l n) := hide (fun h => by have := HMO.out (k + 1) (by omega); have := HZ.out; omega)
      by_cases hzm : most < z
      · have hzm' : (most : Int) < (z : Int) := by omega
        have hR := HNO.out (HZM.out hzm)
        have HRR := hide hR
        clear hR
        go_wp2_with fail
        refine (HD2.out _).mono ?_
        rintro e w6 ⟨rfl, hb6⟩
        go_wp2_with fail
        go_ret2
        refine ⟨?_, HBb.out.trans (hb6.mono HBb.out.size)⟩
        rw [HRR.out]
        rfl
      · have hzm' : ¬ (most : Int) < (z : Int) := by omega
        go_wp2_with fail
        refine (HD2.out _).mono ?_
        rintro e w6 ⟨rfl, hb6⟩
        have HB6 := hide (HBb.out.trans (hb6.mono HBb.out.size))
        clear hb6
        go_wp2_with fail
        go_roundw
        case rel => exact ⟨k + 1, z, by omega, by go_num, by first | rfl | (rw [t3]), by omega, HZ, HB6⟩
        case measure => simp [intOf]; omega
    · obtain rfl : n = k := by omega
      have hR := HYE.out (by rw [← HMK.out]; exact hmm)
      have HRR := hide hR
      go_wp2_with fail
      go_ret2
      refine ⟨?_, HB.out⟩
      rw [HRR.out, HMK.out]
      rfl
end Go.Proofs.YtlkkkgpcjdemdaaDoor
/- Stable sorting, plain: segments of a row, a range swapped with another one, a rotation. -/
namespace Go.Proofs.YtlkkkgpcjdemdaaDoor
section
variable {α : Type}
/-- what stands from a on, ahead of b -/
def seg (f : Nat → α) (a b : Nat) : List α := (List.range' a (b - a)).map f
theorem seg_append (f : Nat → α) {a m b : Nat} (h1 : a ≤ m) (h2 : m ≤ b) : seg f a m ++ seg f m b = seg f a b := by
  unfold seg
  rw [← List.map_append, show b - a = (m - a) + (b - m) by omega]
  have h : m = a + 1 * (m - a) := by omega
  have := List.range'_append (s := a) (m := m - a) (n := b - m) (step := 1)
  rw [← h] at this
  rw [this]
theorem mem_seg {f : Nat → α} {a b : Nat} {x : α} : x ∈ seg f a b ↔ ∃ i, a ≤ i ∧ i < b ∧ f i = x := by
  unfold seg
  simp only [List.mem_map, List.mem_range'_1]
  constructor
  · rintro ⟨i, ⟨h1, h2⟩, h3⟩; exact ⟨i, h1, by omega, h3⟩
  · rintro ⟨i, h1, h2, h3⟩; exact ⟨i, ⟨h1, by omega⟩, h3⟩
theorem seg_length (f : Nat → α) (a b : Nat) : (seg f a b).length = b - a := by simp [seg]
theorem seg_get (f : Nat → α) (a b i : Nat) (h : i < (seg f a b).length) : (seg f a b)[i] = f (a + i) := by
  simp [seg]
theorem seg_shift {f g : Nat → α} {a b n : Nat} (h : ∀ i, i < n → f (a + i) = g (b + i)) : seg f a (a + n) = seg g b (b + n) := by
  apply List.ext_getElem
  · rw [seg_length, seg_length]; omega
  · intro i h1 h2
    rw [seg_get, seg_get]
    rw [seg_length] at h1
    exact h i (by omega)
theorem seg_congr {f g : Nat → α} {a b : Nat} (h : ∀ i, a ≤ i → i < b → f i = g i) : seg f a b = seg g a b := by
  apply List.ext_getElem
  · rw [seg_length, seg_length]
  · intro i h1 h2
    rw [seg_get, seg_get]
    rw [seg_length] at h1
    exact h _ (by omega) (by omega)
theorem seg_nil (f : Nat → α) {a b : Nat} (h : b ≤ a) : seg f a b = [] := by
  apply List.eq_nil_of_length_eq_zero
  rw [seg_length]; omega
theorem seg_one (f : Nat → α) (a : Nat) : seg f a (a + 1) = [f a] := by simp [seg]
theorem pair_seg {R : α → α → Prop} {f : Nat → α} {a b : Nat} : (seg f a b).Pairwise R ↔ ∀ i j, a ≤ i → i < j → j < b → R (f i) (f j) := by
  rw [List.pairwise_iff_getElem]
  constructor
  · intro h i j h1 h2 h3
    have := h (i - a) (j - a) (by rw [seg_length]; omega) (by rw [seg_length]; omega) (by omega)
    rw [seg_get, seg_get] at this
    rwa [show a + (i - a) = i by omega, show a + (j - a) = j by omega] at this
  · intro h i j hi hj hij
    rw [seg_get, seg_get]
    rw [seg_length] at hi hj
    exact h _ _ (by omega) (by omega) (by omega)
/-- two elements change places -/
def swp (f : Nat → α) (i j : Nat) : Nat → α := fun k => if k = i then f j else if k = j then f i else f k
/-- n elements from a on change places with those from b on -/
def swapR (f : Nat → α) (a b n : Nat) : Nat → α := fun k => if a ≤ k ∧ k < a + n then f (k - a + b) else if b ≤ k ∧ k < b + n then f (k - b + a) else f k
theorem swapR_zero (f : Nat → α) (a b : Nat) : swapR f a b 0 = f := by
  funext k
  unfold swapR
  rw [if_neg (by omega), if_neg (by omega)]
theorem swapR_succ (f : Nat → α) {a b n : Nat} (h : a + n < b) : swapR f a b (n + 1) = swp (swapR f a b n) (a + n) (b + n) := by
  funext k
  unfold swp swapR
  by_cases e1 : k = a + n
  · subst e1
    rw [if_pos (by omega), if_pos rfl, if_neg (by omega), if_neg (by omega)]
    congr 1; omega
  · rw [if_neg e1]
    by_cases e2 : k = b + n
    · subst e2
      rw [if_neg (by omega), if_pos (by omega), if_pos rfl, if_neg (by omega), if_neg (by omega)]
      congr 1; omega
    · rw [if_neg e2]
      by_cases e3 : a ≤ k ∧ k < a + n
      · rw [if_pos (by omega), if_pos e3]
      · rw [if_neg (by omega), if_neg e3]
        by_cases e4 : b ≤ k ∧ k < b + n
        · rw [if_pos (by omega), if_pos e4]
        · rw [if_neg (by omega), if_neg e4]
/-- [a, m) and [m, b) change places -/
def rotF (f : Nat → α) (a m b : Nat) : Nat → α := fun k => if a ≤ k ∧ k < a + (b - m) then f (k + (m - a)) else if a + (b - m) ≤ k ∧ k < b then f (k - (b - m)) else f k
theorem rot_left (f : Nat → α) {m i j : Nat} (hi : i ≤ m) (h : j < i) : rotF (swapR f (m - i) m j) (m - (i - j)) m (m + j) = rotF f (m - i) m (m + j) := by
  funext k
  unfold rotF swapR
  repeat' split
  all_goals first | (exfalso; omega) | rfl | (congr 1; omega)
theorem rot_right (f : Nat → α) {m i j : Nat} (hi : i ≤ m) (h : i < j) : rotF (swapR f (m - i) (m + j - i) i) (m - i) m (m + (j - i)) = rotF f (m - i) m (m + j) := by
  funext k
  unfold rotF swapR
  repeat' split
  all_goals first | (exfalso; omega) | rfl | (congr 1; omega)
theorem rot_even (f : Nat → α) {m i : Nat} (hi : i ≤ m) : swapR f (m - i) m i = rotF f (m - i) m (m + i) := by
  funext k
  unfold rotF swapR
  repeat' split
  all_goals first | (exfalso; omega) | rfl | (congr 1; omega)
theorem rot_seg (f : Nat → α) {a m b : Nat} (h1 : a ≤ m) (h2 : m ≤ b) : seg (rotF f a m b) a (a + (b - m)) = seg f m b ∧ seg (rotF f a m b) (a + (b - m)) b = seg f a m := by
  constructor
  · have h := seg_shift (f := rotF f a m b) (g := f) (a := a) (b := m) (n := b - m) (fun i hi => by
      unfold rotF
      rw [if_pos (by omega)]; congr 1; omega)
    rwa [show m + (b - m) = b by omega] at h
  · have h := seg_shift (f := rotF f a m b) (g := f) (a := a + (b - m)) (b := a) (n := m - a) (fun i hi => by
      unfold rotF
      rw [if_neg (by omega), if_pos (by omega)]; congr 1; omega)
    rwa [show a + (b - m) + (m - a) = b by omega, show a + (m - a) = m by omega] at h
theorem rot_out (f : Nat → α) {a m b k : Nat} (h2 : m ≤ b) (hk : k < a ∨ b ≤ k) (h1 : a ≤ m) : rotF f a m b k = f k := by
  unfold rotF
  rw [if_neg (by omega), if_neg (by omega)]
end
end Go.Proofs.YtlkkkgpcjdemdaaDoor
/- Stable sorting, plain: two sorted segments merged. -/
namespace Go.Proofs.YtlkkkgpcjdemdaaDoor
/-- less: what is asked; lt: the order that is made, in which no two are alike (what less has to do with lt is said of the elements alone: Ahead) -/
structure Ord2 {α : Type} (less : α → α → Bool) (lt : α → α → Prop) : Prop where
  tr : ∀ x y z, lt x y → lt y z → lt x z
section
variable {α : Type} {less : α → α → Bool} {lt : α → α → Prop}
/-- x stood ahead of y -/
def Ahead (less : α → α → Bool) (lt : α → α → Prop) (x y : α) : Prop := (less y x = false → lt x y) ∧ (less y x = true → lt y x)
/-- nothing outside, and what stood inside, stands there still -/
def Keeps (f g : Nat → α) (a b : Nat) : Prop := (∀ k, k < a ∨ b ≤ k → g k = f k) ∧ (seg g a b).Perm (seg f a b)
theorem Keeps.refl (f : Nat → α) (a b : Nat) : Keeps f f a b := ⟨fun _ _ => rfl, .refl _⟩
theorem Keeps.trans {f g h : Nat → α} {a b : Nat} (h1 : Keeps f g a b) (h2 : Keeps g h a b) : Keeps f h a b := ⟨fun k hk => (h2.1 k hk).trans (h1.1 k hk), h2.2.trans h1.2⟩
theorem Keeps.wide {f g : Nat → α} {a b c d : Nat} (h : Keeps f g a b) (h1 : c ≤ a) (hab : a ≤ b) (h2 : b ≤ d) : Keeps f g c d := by
  refine ⟨fun k hk => h.1 k (by omega), ?_⟩
  rw [← seg_append g h1 (by omega), ← seg_append g hab h2, ← seg_append f h1 (by omega), ← seg_append f hab h2]
  rw [seg_congr (f := g) (g := f) (a := c) (b := a) (fun i _ hi => h.1 i (by omega)), seg_congr (f := g) (g := f) (a := b) (b := d) (fun i hi _ => h.1 i (by omega))]
  exact List.Perm.append_left _ (h.2.append_right _)
theorem Keeps.far {f g : Nat → α} {a b c d : Nat} (h : Keeps f g a b) (h1 : d ≤ a ∨ b ≤ c) : seg g c d = seg f c d := seg_congr fun i h2 h3 => h.1 i (by omega)
/-- ahead of a merge -/
structure MP (less : α → α → Bool) (lt : α → α → Prop) (f : Nat → α) (a m b : Nat) : Prop where
  am : a ≤ m
  mb : m ≤ b
  l : (seg f a m).Pairwise lt
  r : (seg f m b).Pairwise lt
  x : ∀ x ∈ seg f a m, ∀ y ∈ seg f m b, Ahead less lt x y
/-- behind a merge -/
def MQ (lt : α → α → Prop) (f g : Nat → α) (a b : Nat) : Prop := Keeps f g a b ∧ (seg g a b).Pairwise lt
theorem MP.done {f : Nat → α} {a m b : Nat} (h : MP less lt f a m b) (hm : m = a ∨ m = b) : MQ lt f f a b := by
  refine ⟨Keeps.refl _ _ _, ?_⟩
  rcases hm with rfl | rfl
  · exact h.r
  · exact h.l
theorem rot_keeps (f : Nat → α) {a s m e b : Nat} (h0 : a ≤ s) (h1 : s ≤ m) (h2 : m ≤ e) (h3 : e ≤ b) : Keeps f (rotF f s m e) a b := by
  refine Keeps.wide (a := s) (b := e) ⟨fun k hk => rot_out f h2 hk h1, ?_⟩ h0 (by omega) h3
  obtain ⟨p1, p2⟩ := rot_seg f h1 h2
  rw [← seg_append (rotF f s m e) (m := s + (e - m)) (by omega) (by omega), p1, p2, ← seg_append f h1 h2]
  exact List.perm_append_comm
/-- the segments behind a rotation -/
theorem rot_segs (f : Nat → α) {a s m e b mid : Nat} (h0 : a ≤ s) (h1 : s ≤ m) (h2 : m ≤ e) (h3 : e ≤ b) (hmid : mid = s + (e - m)) :
    seg (rotF f s m e) a s = seg f a s ∧ seg (rotF f s m e) s mid = seg f m e ∧ seg (rotF f s m e) mid e = seg f s m ∧ seg (rotF f s m e) e b = seg f e b := by
  subst hmid
  obtain ⟨p1, p2⟩ := rot_seg f h1 h2
  exact ⟨seg_congr fun i _ hi => rot_out f h2 (.inl hi) h1, p1, p2, seg_congr fun i hi _ => rot_out f h2 (.inr hi) h1⟩
theorem pair_le {R : α → α → Prop} {f : Nat → α} {a b : Nat} (h : (seg f a b).Pairwise R) {i j : Nat} (h1 : a ≤ i) (h2 : i < j) (h3 : j < b) : R (f i) (f j) := pair_seg.1 h i j h1 h2 h3
/-- behind the search, and the rotation -/
theorem MP.split (O : Ord2 less lt) {f : Nat → α} {a m b s e mid : Nat} (h : MP less lt f a m b) (h0 : a ≤ s) (h1 : s ≤ m) (h2 : m ≤ e) (h3 : e ≤ b) (hmid : mid = s + (e - m))
    (q1 : s < m → m < e → less (f (e - 1)) (f s) = true) (q2 : a < s → e < b → less (f e) (f (s - 1)) = false) :
    MP less lt (rotF f s m e) a s mid ∧ MP less lt (rotF f s m e) mid e b ∧ ∀ x ∈ seg (rotF f s m e) a mid, ∀ y ∈ seg (rotF f s m e) mid b, lt x y := by
  obtain ⟨p1, p2, p3, p4⟩ := rot_segs f h0 h1 h2 h3 hmid
  have hl := h.l
  have hr := h.r
  have sl : ∀ x, x ∈ seg f a s → x ∈ seg f a m := fun x hx => by obtain ⟨i, a1, a2, a3⟩ := mem_seg.1 hx; exact mem_seg.2 ⟨i, a1, by omega, a3⟩
  have sr : ∀ x, x ∈ seg f s m → x ∈ seg f a m := fun x hx => by obtain ⟨i, a1, a2, a3⟩ := mem_seg.1 hx; exact mem_seg.2 ⟨i, by omega, a2, a3⟩
  have el : ∀ x, x ∈ seg f m e → x ∈ seg f m b := fun x hx => by obtain ⟨i, a1, a2, a3⟩ := mem_seg.1 hx; exact mem_seg.2 ⟨i, a1, by omega, a3⟩
  have er : ∀ x, x ∈ seg f e b → x ∈ seg f m b := fun x hx => by obtain ⟨i, a1, a2, a3⟩ := mem_seg.1 hx; exact mem_seg.2 ⟨i, by omega, a2, a3⟩
  refine ⟨⟨h0, by omega, ?_, ?_, ?_⟩, ⟨by omega, h3, ?_, ?_, ?_⟩, ?_⟩
  · rw [p1]; exact pair_seg.2 fun i j a1 a2 a3 => pair_le hl a1 a2 (by omega)
  · rw [p2]; exact pair_seg.2 fun i j a1 a2 a3 => pair_le hr a1 a2 (by omega)
  · rw [p1, p2]; exact fun x hx y hy => h.x x (sl x hx) y (el y hy)
  · rw [p3]; exact pair_seg.2 fun i j a1 a2 a3 => pair_le hl (by omega) a2 a3
  · rw [p4]; exact pair_seg.2 fun i j a1 a2 a3 => pair_le hr (by omega) a2 a3
  · rw [p3, p4]; exact fun x hx y hy => h.x x (sr x hx) y (er y hy)
  · rw [← seg_append _ h0 (show s ≤ mid by omega), ← seg_append _ (show mid ≤ e by omega) h3, p1, p2, p3, p4]
    intro x hx y hy
    rw [List.mem_append] at hx hy
    rcases hx with hx | hx <;> rcases hy with hy | hy <;> obtain ⟨i, a1, a2, rfl⟩ := mem_seg.1 hx <;> obtain ⟨j, b1, b2, rfl⟩ := mem_seg.1 hy
    · exact pair_le hl a1 (by omega) b2
    · have c := (h.x _ (mem_seg.2 ⟨s - 1, by omega, by omega, rfl⟩) _ (mem_seg.2 ⟨e, by omega, by omega, rfl⟩)).1 (q2 (by omega) (by omega))
      have c1 : lt (f i) (f e) := by
        by_cases e1 : i = s - 1
        · rw [e1]; exact c
        · exact O.tr _ _ _ (pair_le hl a1 (show i < s - 1 by omega) (by omega)) c
      by_cases e2 : j = e
      · rw [e2]; exact c1
      · exact O.tr _ _ _ c1 (pair_le hr (show m ≤ e by omega) (by omega) b2)
    · have c := (h.x _ (mem_seg.2 ⟨s, by omega, by omega, rfl⟩) _ (mem_seg.2 ⟨e - 1, by omega, by omega, rfl⟩)).2 (q1 (by omega) (by omega))
      have c1 : lt (f i) (f s) := by
        by_cases e1 : i = e - 1
        · rw [e1]; exact c
        · exact O.tr _ _ _ (pair_le hr a1 (show i < e - 1 by omega) (by omega)) c
      by_cases e2 : j = s
      · rw [e2]; exact c1
      · exact O.tr _ _ _ c1 (pair_le hl (show a ≤ s by omega) (by omega) b2)
    · exact pair_le hr a1 (by omega) b2
/-- both halves are merged -/
theorem MQ.join {f g g1 g2 : Nat → α} {a mid b : Nat} (h1 : a ≤ mid) (h2 : mid ≤ b) (hk : Keeps f g a b) (hx : ∀ x ∈ seg g a mid, ∀ y ∈ seg g mid b, lt x y) (m1 : MQ lt g g1 a mid) (m2 : MQ lt g1 g2 mid b) : MQ lt f g2 a b := by
  have k1 : Keeps f g2 a b := (hk.trans (m1.1.wide (Nat.le_refl _) h1 h2)).trans (m2.1.wide h1 h2 (Nat.le_refl _))
  refine ⟨k1, ?_⟩
  rw [← seg_append _ h1 h2, List.pairwise_append]
  have e1 : seg g2 a mid = seg g1 a mid := m2.1.far (.inl (Nat.le_refl _))
  have e2 : seg g1 mid b = seg g mid b := m1.1.far (.inr (Nat.le_refl _))
  refine ⟨by rw [e1]; exact m1.2, m2.2, fun x h3 y h4 => ?_⟩
  rw [e1] at h3
  have h5 := m2.1.2.mem_iff.1 h4
  rw [e2] at h5
  exact hx x (m1.1.2.mem_iff.1 h3) y h5
/-- the right half, once the left one is merged -/
theorem MP.later {g g1 : Nat → α} {a mid m b : Nat} (h : MP less lt g mid m b) (m1 : MQ lt g g1 a mid) : MP less lt g1 mid m b := by
  have h1 := h.am
  have h2 := h.mb
  have e1 : seg g1 mid m = seg g mid m := m1.1.far (.inr (Nat.le_refl _))
  have e2 : seg g1 m b = seg g m b := m1.1.far (.inr h1)
  exact ⟨h1, h2, by rw [e1]; exact h.l, by rw [e2]; exact h.r, by rw [e1, e2]; exact h.x⟩
theorem four_sorted {A B C D : List α} (h1 : (A ++ B).Pairwise lt) (h2 : (C ++ D).Pairwise lt) (hAC : ∀ x ∈ A, ∀ y ∈ C, lt x y) (hAD : ∀ x ∈ A, ∀ y ∈ D, lt x y) (hCB : ∀ x ∈ C, ∀ y ∈ B, lt x y) (hBD : ∀ x ∈ B, ∀ y ∈ D, lt x y) :
    (A ++ (C ++ (B ++ D))).Pairwise lt := by
  rw [List.pairwise_append] at h1 h2
  rw [List.pairwise_append, List.pairwise_append, List.pairwise_append]
  refine ⟨h1.1, ⟨h2.1, ⟨h1.2.1, h2.2.1, hBD⟩, fun x hx y hy => ?_⟩, fun x hx y hy => ?_⟩
  · rcases List.mem_append.1 hy with h | h
    · exact hCB x hx y h
    · exact h2.2.2 x hx y h
  · rcases List.mem_append.1 hy with h | h
    · exact hAC x hx y h
    · rcases List.mem_append.1 h with h | h
      · exact h1.2.2 x hx y h
      · exact hAD x hx y h
/-- one element put into the right segment -/
theorem MP.left1 (O : Ord2 less lt) {f : Nat → α} {a b i : Nat} (h : MP less lt f a (a + 1) b) (h1 : a + 1 ≤ i) (h2 : i ≤ b) (q1 : a + 1 < i → less (f (i - 1)) (f a) = true) (q2 : i < b → less (f i) (f a) = false) : MQ lt f (rotF f a (a + 1) i) a b := by
  refine ⟨rot_keeps f (Nat.le_refl _) (by omega) h1 h2, ?_⟩
  obtain ⟨p1, p2, p3, p4⟩ := rot_segs f (a := a) (s := a) (m := a + 1) (e := i) (b := b) (mid := a + (i - (a + 1))) (Nat.le_refl _) (by omega) h1 h2 rfl
  have hr := h.r
  rw [← seg_append _ (show a ≤ a + (i - (a + 1)) by omega) (show a + (i - (a + 1)) ≤ b by omega), ← seg_append _ (show a + (i - (a + 1)) ≤ i by omega) h2, p2, p3, p4]
  have := four_sorted (lt := lt) (A := []) (B := seg f a (a + 1)) (C := seg f (a + 1) i) (D := seg f i b) (by simpa using h.l) (by rw [seg_append _ h1 h2]; exact hr) (by simp) (by simp) (fun x hx y hy => by
    obtain ⟨k, a1, a2, rfl⟩ := mem_seg.1 hx
    rw [seg_one] at hy
    obtain rfl := List.mem_singleton.1 hy
    have c := (h.x _ (mem_seg.2 ⟨a, by omega, by omega, rfl⟩) _ (mem_seg.2 ⟨i - 1, by omega, by omega, rfl⟩)).2 (q1 (by omega))
    by_cases e1 : k = i - 1
    · rw [e1]; exact c
    · exact O.tr _ _ _ (pair_le hr a1 (show k < i - 1 by omega) (by omega)) c) (fun x hx y hy => by
    obtain ⟨k, a1, a2, rfl⟩ := mem_seg.1 hy
    rw [seg_one] at hx
    obtain rfl := List.mem_singleton.1 hx
    have c := (h.x _ (mem_seg.2 ⟨a, by omega, by omega, rfl⟩) _ (mem_seg.2 ⟨i, by omega, by omega, rfl⟩)).1 (q2 (by omega))
    by_cases e1 : k = i
    · rw [e1]; exact c
    · exact O.tr _ _ _ c (pair_le hr h1 (by omega) a2))
  simpa using this
/-- one element put into the left segment -/
theorem MP.right1 (O : Ord2 less lt) {f : Nat → α} {a m i : Nat} (h : MP less lt f a m (m + 1)) (h1 : a ≤ i) (h2 : i ≤ m) (q1 : a < i → less (f m) (f (i - 1)) = false) (q2 : i < m → less (f m) (f i) = true) : MQ lt f (rotF f i m (m + 1)) a (m + 1) := by
  refine ⟨rot_keeps f h1 h2 (by omega) (Nat.le_refl _), ?_⟩
  obtain ⟨p1, p2, p3, p4⟩ := rot_segs f (a := a) (s := i) (m := m) (e := m + 1) (b := m + 1) (mid := i + (m + 1 - m)) h1 h2 (by omega) (Nat.le_refl _) rfl
  have hl := h.l
  rw [← seg_append _ h1 (show i ≤ m + 1 by omega), ← seg_append _ (show i ≤ i + (m + 1 - m) by omega) (show i + (m + 1 - m) ≤ m + 1 by omega), p1, p2, p3]
  have := four_sorted (lt := lt) (A := seg f a i) (B := seg f i m) (C := seg f m (m + 1)) (D := []) (by rw [seg_append _ h1 h2]; exact hl) (by simpa using h.r) (fun x hx y hy => by
    obtain ⟨k, a1, a2, rfl⟩ := mem_seg.1 hx
    rw [seg_one] at hy
    obtain rfl := List.mem_singleton.1 hy
    have c := (h.x _ (mem_seg.2 ⟨i - 1, by omega, by omega, rfl⟩) _ (mem_seg.2 ⟨m, by omega, by omega, rfl⟩)).1 (q1 (by omega))
    by_cases e1 : k = i - 1
    · rw [e1]; exact c
    · exact O.tr _ _ _ (pair_le hl a1 (show k < i - 1 by omega) (by omega)) c) (by simp) (fun x hx y hy => by
    obtain ⟨k, a1, a2, rfl⟩ := mem_seg.1 hy
    rw [seg_one] at hx
    obtain rfl := List.mem_singleton.1 hx
    have c := (h.x _ (mem_seg.2 ⟨i, by omega, by omega, rfl⟩) _ (mem_seg.2 ⟨m, by omega, by omega, rfl⟩)).2 (q2 (by omega))
    by_cases e1 : k = i
    · rw [e1]; exact c
    · exact O.tr _ _ _ c (pair_le hl h1 (by omega) a2)) (by simp)
  simpa using this
end
end Go.Proofs.YtlkkkgpcjdemdaaDoor
/- Stable sorting, plain: insertion, blocks, rounds of merges. -/
namespace Go.Proofs.YtlkkkgpcjdemdaaDoor
section
variable {α : Type} {less : α → α → Bool} {lt : α → α → Prop}
theorem rot_same (f : Nat → α) (a b : Nat) : rotF f a a b = f := by
  funext k
  unfold rotF
  repeat' split
  all_goals first | rfl | (congr 1; omega) | (exfalso; omega)
theorem rot_same' (f : Nat → α) (a b : Nat) : rotF f a b b = f := by
  funext k
  unfold rotF
  repeat' split
  all_goals first | rfl | (congr 1; omega) | (exfalso; omega)
/-- the element at i goes one place to the left -/
theorem swp_back (f : Nat → α) {i j : Nat} (h : j < i) : swp (rotF f (j + 1) i (i + 1)) (j + 1) j = rotF f j i (i + 1) := by
  funext k
  unfold swp rotF
  repeat' split
  all_goals first | (exfalso; omega) | rfl | (congr 1; omega)
/-- the element at a goes one place to the right -/
theorem swp_on (f : Nat → α) {a k : Nat} (h : a ≤ k) : swp (rotF f a (a + 1) (k + 1)) k (k + 1) = rotF f a (a + 1) (k + 2) := by
  funext i
  unfold swp rotF
  repeat' split
  all_goals first | (exfalso; omega) | rfl | (congr 1; omega)
theorem rot_at (f : Nat → α) {i j : Nat} (h : j ≤ i) : rotF f j i (i + 1) j = f i := by
  unfold rotF
  rw [if_pos (by omega)]; congr 1; omega
theorem rot_before (f : Nat → α) {i j k : Nat} (h : k < j) : rotF f j i (i + 1) k = f k := by
  unfold rotF
  rw [if_neg (by omega), if_neg (by omega)]
/-- an element is put in -/
theorem ins_step (O : Ord2 less lt) {f0 f : Nat → α} {a b i j : Nat} (h : MQ lt f0 f a i) (hp : ∀ x y, a ≤ x → x < y → y < b → Ahead less lt (f0 x) (f0 y)) (hi : i < b) (h1 : a ≤ j) (h2 : j ≤ i)
    (q1 : a < j → less (f i) (f (j - 1)) = false) (q2 : j < i → less (f i) (f j) = true) : MQ lt f0 (rotF f j i (i + 1)) a (i + 1) := by
  have hai : a ≤ i := by omega
  have e : f i = f0 i := h.1.1 i (.inr (Nat.le_refl _))
  have hm : MP less lt f a i (i + 1) := ⟨hai, by omega, h.2, by rw [seg_one]; exact List.pairwise_singleton _ _, fun x hx y hy => by
    rw [seg_one] at hy
    obtain rfl := List.mem_singleton.1 hy
    obtain ⟨k, k1, k2, rfl⟩ := mem_seg.1 (h.1.2.mem_iff.1 hx)
    rw [e]
    exact hp k i k1 k2 hi⟩
  have hq := hm.right1 O h1 h2 q1 q2
  exact ⟨(h.1.wide (Nat.le_refl _) hai (by omega)).trans hq.1, hq.2⟩
theorem ins_none (f : Nat → α) (a : Nat) : MQ lt f f a a := ⟨Keeps.refl _ _ _, by rw [seg_nil _ (Nat.le_refl _)]; exact List.Pairwise.nil⟩
theorem ins_one (f : Nat → α) (a : Nat) : MQ lt f f a (a + 1) := ⟨Keeps.refl _ _ _, by rw [seg_one]; exact List.pairwise_singleton _ _⟩
/-- what stands ahead of c stood ahead of what stands behind it -/
def Cut (less : α → α → Bool) (lt : α → α → Prop) (n : Nat) (f : Nat → α) (c : Nat) : Prop := ∀ x ∈ seg f 0 c, ∀ y ∈ seg f c n, Ahead less lt x y
theorem Cut.keep {n : Nat} {f g : Nat → α} {a b c : Nat} (h : Cut less lt n f c) (hk : Keeps f g a b) (hab : a ≤ b) (hb : b ≤ n) (hc : c ≤ a ∨ b ≤ c) (hcn : c ≤ n) : Cut less lt n g c := by
  have h1 : (seg g 0 c).Perm (seg f 0 c) := by
    rcases hc with h0 | h0
    · rw [hk.far (.inl h0)]
    · exact (hk.wide (Nat.zero_le _) hab h0).2
  have h2 : (seg g c n).Perm (seg f c n) := by
    rcases hc with h0 | h0
    · exact (hk.wide h0 hab hb).2
    · rw [hk.far (.inr h0)]
  exact fun x hx y hy => h x (h1.mem_iff.1 hx) y (h2.mem_iff.1 hy)
theorem Cut.start {n : Nat} {f : Nat → α} (hp : ∀ x y, x < y → y < n → Ahead less lt (f x) (f y)) (c : Nat) : Cut less lt n f c := fun x hx y hy => by
  obtain ⟨i, i1, i2, rfl⟩ := mem_seg.1 hx
  obtain ⟨j, j1, j2, rfl⟩ := mem_seg.1 hy
  exact hp i j (by omega) j2
theorem Cut.mp {n : Nat} {f : Nat → α} {a m b : Nat} (h : Cut less lt n f m) (h1 : a ≤ m) (h2 : m ≤ b) (h3 : b ≤ n) (hl : (seg f a m).Pairwise lt) (hr : (seg f m b).Pairwise lt) : MP less lt f a m b :=
  ⟨h1, h2, hl, hr, fun x hx y hy => by
    obtain ⟨i, i1, i2, rfl⟩ := mem_seg.1 hx
    obtain ⟨j, j1, j2, rfl⟩ := mem_seg.1 hy
    exact h _ (mem_seg.2 ⟨i, by omega, i2, rfl⟩) _ (mem_seg.2 ⟨j, j1, by omega, rfl⟩)⟩
/-- blocks of the size bs are sorted -/
structure BInv (less : α → α → Bool) (lt : α → α → Prop) (n : Nat) (f0 f : Nat → α) (bs : Nat) : Prop where
  keeps : Keeps f0 f 0 n
  sorted : ∀ s, (seg f (s * bs) (min (s * bs + bs) n)).Pairwise lt
  cut : ∀ s, s * bs ≤ n → Cut less lt n f (s * bs)
/-- blocks of 20 are sorted up to a -/
structure IInv (less : α → α → Bool) (lt : α → α → Prop) (n : Nat) (f0 f : Nat → α) (t : Nat) : Prop where
  keeps : Keeps f0 f 0 n
  sorted : ∀ s, s < t → (seg f (s * 20) (s * 20 + 20)).Pairwise lt
  rest : ∀ i, t * 20 ≤ i → f i = f0 i
  cut : ∀ s, s * 20 ≤ n → Cut less lt n f (s * 20)
theorem IInv.start {n : Nat} {f : Nat → α} (hp : ∀ x y, x < y → y < n → Ahead less lt (f x) (f y)) : IInv less lt n f f 0 :=
  ⟨Keeps.refl _ _ _, fun s hs => absurd hs (by omega), fun _ _ => rfl, fun s _ => Cut.start hp _⟩
theorem IInv.pre {n : Nat} {f0 f : Nat → α} {t : Nat} (h : IInv less lt n f0 f t) (hp : ∀ x y, x < y → y < n → Ahead less lt (f0 x) (f0 y)) : ∀ x y, t * 20 ≤ x → x < y → y < n → Ahead less lt (f x) (f y) := fun x y h1 h2 h3 => by
  rw [h.rest x h1, h.rest y (by omega)]
  exact hp x y h2 h3
theorem IInv.next {n : Nat} {f0 f g : Nat → α} {t : Nat} (h : IInv less lt n f0 f t) (hn : t * 20 + 20 ≤ n) (hq : MQ lt f g (t * 20) (t * 20 + 20)) : IInv less lt n f0 g (t + 1) := by
  refine ⟨h.keeps.trans (hq.1.wide (by omega) (by omega) hn), fun s hs => ?_, fun i hi => ?_, fun s hs => (h.cut s hs).keep hq.1 (by omega) hn (by omega) hs⟩
  · by_cases e : s = t
    · subst e; exact hq.2
    · rw [hq.1.far (.inl (by omega))]; exact h.sorted s (by omega)
  · rw [hq.1.1 i (.inr (by omega))]; exact h.rest i (by omega)
theorem IInv.done {n : Nat} {f0 f g : Nat → α} {t : Nat} (h : IInv less lt n f0 f t) (h1 : t * 20 ≤ n) (h2 : n < t * 20 + 20) (hq : MQ lt f g (t * 20) n) : BInv less lt n f0 g 20 := by
  refine ⟨h.keeps.trans (hq.1.wide (by omega) h1 (Nat.le_refl _)), fun s => ?_, fun s hs => (h.cut s hs).keep hq.1 h1 (Nat.le_refl _) (by omega) hs⟩
  by_cases e : s = t
  · subst e
    rw [show min (s * 20 + 20) n = n by omega]; exact hq.2
  · by_cases e2 : s < t
    · rw [show min (s * 20 + 20) n = s * 20 + 20 by omega, hq.1.far (.inl (by omega))]; exact h.sorted s e2
    · rw [seg_nil _ (by omega)]; exact List.Pairwise.nil
theorem BInv.done {n bs : Nat} {f0 f : Nat → α} (h : BInv less lt n f0 f bs) (hn : n ≤ bs) : MQ lt f0 f 0 n := by
  have := h.sorted 0
  rw [Nat.zero_mul, Nat.zero_add, show min bs n = n by omega] at this
  exact ⟨h.keeps, this⟩
/-- in a round of merges: two by two they are merged up to t -/
structure RInv (less : α → α → Bool) (lt : α → α → Prop) (n : Nat) (f0 f : Nat → α) (bs t : Nat) : Prop where
  keeps : Keeps f0 f 0 n
  big : ∀ s, s < t → (seg f (s * (2 * bs)) (s * (2 * bs) + 2 * bs)).Pairwise lt
  small : ∀ s, 2 * t ≤ s → (seg f (s * bs) (min (s * bs + bs) n)).Pairwise lt
  cut : ∀ s, s * (2 * bs) ≤ n → Cut less lt n f (s * (2 * bs))
  mid : ∀ s, 2 * t ≤ s → s * bs ≤ n → Cut less lt n f (s * bs)
theorem RInv.start {n bs : Nat} {f0 f : Nat → α} (h : BInv less lt n f0 f bs) : RInv less lt n f0 f bs 0 :=
  ⟨h.keeps, fun s hs => absurd hs (by omega), fun s _ => h.sorted s, fun s hs => by
    have e : s * (2 * bs) = (2 * s) * bs := by rw [Nat.mul_left_comm, Nat.mul_assoc]
    rw [e] at hs ⊢
    exact h.cut _ hs, fun s _ hs => h.cut s hs⟩
theorem mul2 (t bs : Nat) : (2 * t) * bs = t * (2 * bs) ∧ (2 * t + 1) * bs = t * (2 * bs) + bs ∧ (2 * t + 2) * bs = t * (2 * bs) + 2 * bs := by
  have e : (2 * t) * bs = t * (2 * bs) := by rw [Nat.mul_left_comm, Nat.mul_assoc]
  refine ⟨e, ?_, ?_⟩
  · rw [Nat.add_mul, e, Nat.one_mul]
  · rw [Nat.add_mul, e]
theorem mul_le' {s t : Nat} (k : Nat) (h : s ≤ t) : s * k ≤ t * k := Nat.mul_le_mul_right k h
theorem RInv.pair {n bs t : Nat} {f0 f : Nat → α} (h : RInv less lt n f0 f bs t) {b : Nat} (h1 : t * (2 * bs) + bs ≤ b) (h2 : b ≤ t * (2 * bs) + 2 * bs) (h3 : b ≤ n) (h4 : b = n ∨ b = t * (2 * bs) + 2 * bs) : MP less lt f (t * (2 * bs)) (t * (2 * bs) + bs) b := by
  obtain ⟨e1, e2, e3⟩ := mul2 t bs
  have c := h.mid (2 * t + 1) (by omega) (by omega)
  have s1 := h.small (2 * t) (Nat.le_refl _)
  have s2 := h.small (2 * t + 1) (by omega)
  rw [e1, show min (t * (2 * bs) + bs) n = t * (2 * bs) + bs by omega] at s1
  rw [e2] at c s2
  rw [show min (t * (2 * bs) + bs + bs) n = b by omega] at s2
  exact c.mp (by omega) h1 h3 s1 s2
theorem RInv.next {n bs t : Nat} {f0 f g : Nat → α} (h : RInv less lt n f0 f bs t) (hn : t * (2 * bs) + 2 * bs ≤ n) (hq : MQ lt f g (t * (2 * bs)) (t * (2 * bs) + 2 * bs)) : RInv less lt n f0 g bs (t + 1) := by
  obtain ⟨e1, e2, e3⟩ := mul2 t bs
  refine ⟨h.keeps.trans (hq.1.wide (by omega) (by omega) hn), fun s hs => ?_, fun s hs => ?_, fun s hs => (h.cut s hs).keep hq.1 (by omega) hn ?_ hs, fun s h1 hs => (h.mid s (by omega) hs).keep hq.1 (by omega) hn ?_ hs⟩
  · by_cases e : s = t
    · subst e; exact hq.2
    · have := mul_le' (2 * bs) (show s + 1 ≤ t by omega)
      rw [Nat.add_mul, Nat.one_mul] at this
      rw [hq.1.far (.inl this)]; exact h.big s (by omega)
  · have := mul_le' bs (show 2 * t + 2 ≤ s by omega)
    rw [hq.1.far (.inr (by omega))]; exact h.small s (by omega)
  · by_cases e : s ≤ t
    · exact .inl (mul_le' _ e)
    · have := mul_le' (2 * bs) (show t + 1 ≤ s by omega)
      rw [Nat.add_mul, Nat.one_mul] at this
      exact .inr this
  · have := mul_le' bs (show 2 * t + 2 ≤ s by omega)
    exact .inr (by omega)
theorem RInv.done {n bs t : Nat} {f0 f g : Nat → α} (h : RInv less lt n f0 f bs t) (h1 : t * (2 * bs) ≤ n) (h2 : n < t * (2 * bs) + 2 * bs) (hq : MQ lt f g (t * (2 * bs)) n) : BInv less lt n f0 g (2 * bs) := by
  refine ⟨h.keeps.trans (hq.1.wide (by omega) h1 (Nat.le_refl _)), fun s => ?_, fun s hs => (h.cut s hs).keep hq.1 h1 (Nat.le_refl _) ?_ hs⟩
  · by_cases e : s = t
    · subst e
      rw [show min (s * (2 * bs) + 2 * bs) n = n by omega]; exact hq.2
    · by_cases e2 : s < t
      · have := mul_le' (2 * bs) (show s + 1 ≤ t by omega)
        rw [Nat.add_mul, Nat.one_mul] at this
        rw [show min (s * (2 * bs) + 2 * bs) n = s * (2 * bs) + 2 * bs by omega, hq.1.far (.inl this)]; exact h.big s e2
      · have := mul_le' (2 * bs) (show t + 1 ≤ s by omega)
        rw [Nat.add_mul, Nat.one_mul] at this
        rw [seg_nil _ (by omega)]; exact List.Pairwise.nil
  · by_cases e : s ≤ t
    · exact .inl (mul_le' _ e)
    · have := mul_le' (2 * bs) (show t + 1 ≤ s by omega)
      rw [Nat.add_mul, Nat.one_mul] at this
      omega
/-- the last block of a round stands alone -/
theorem RInv.alone {n bs t : Nat} {f0 f : Nat → α} (h : RInv less lt n f0 f bs t) (h1 : n ≤ t * (2 * bs) + bs) : MQ lt f f (t * (2 * bs)) n := by
  obtain ⟨e1, e2, e3⟩ := mul2 t bs
  have s1 := h.small (2 * t) (Nat.le_refl _)
  rw [e1, show min (t * (2 * bs) + bs) n = n by omega] at s1
  exact ⟨Keeps.refl _ _ _, s1⟩
end
end Go.Proofs.YtlkkkgpcjdemdaaDoor
/- Stable sorting of ints, walked: at most 20 of them: the insertion sort, by whatever comparison. -/
namespace Go.Proofs.YtlkkkgpcjdemdaaDoor
open List renaming getElem_toArray → glA, getElem_cons_zero → glB, getElem_cons_succ → glC, setIfInBounds_toArray → glD, set_cons_zero → glE, set_cons_succ → glF
open Go Go.RowKit Go.Shelf
set_option maxHeartbeats 4000000
set_option maxRecDepth 100000
theorem below_grown' {w w' : World} (h : Below w.heap.size w w') (r : Option Nat) : w.grownBy w' r := ⟨h.os, h.tape, h.output, h.size, fun k hk _ => h.block k hk⟩
/-- a row of ints in a block of its own, each of them one of V -/
structure IBR (V : Int → Prop) (w : World) (g n : Nat) (f : Nat → Int) : Prop where
  blk : ∃ cs, Blk w g 3 cs
  cells : ∀ k, k < n → w.cell? ⟨g, k, none⟩ = some (.int .i64 (f k))
  val : ∀ k, k < n → V (f k)
section
variable {V : Int → Prop} {w w' : World} {g n : Nat} {f : Nat → Int}
theorem IBR.lt (h : IBR V w g n f) : g < w.heap.size := by obtain ⟨⟨cs, hc⟩, -⟩ := h; exact hc.lt
theorem IBR.ext (h : IBR V w g n f) (hb : Below w.heap.size w w') : IBR V w' g n f := by
  have hl := h.lt
  obtain ⟨⟨cs, hc⟩, hk, hv⟩ := h
  exact ⟨⟨cs, hc.ext hb⟩, fun k hkn => (hb.cell (p := ⟨g, k, none⟩) hl).trans (hk k hkn), hv⟩
theorem IBR.at_ (h : IBR V w g n f) {k : Nat} (hk : k < n) : g < w.heap.size ∧ w.cell? ⟨g, k, none⟩ = some (.int .i64 (f k)) ∧ w.frozen? ⟨g, k, none⟩ = false := by
  obtain ⟨⟨cs, hc⟩, hK, -⟩ := h
  exact ⟨hc.lt, hK k hk, hc.frozen _⟩
theorem IBR.put (h : IBR V w g n f) {k : Nat} (hk : k < n) (v : Int) (hv : V v) : IBR V (w.setCell ⟨g, k, none⟩ (.int .i64 v)) g n (upd f k v) := by
  obtain ⟨⟨cs, hc⟩, hK, hV⟩ := h
  refine ⟨⟨_, hc.set_ _ _⟩, fun i hi => ?_, fun i hi => ?_⟩
  · by_cases e : i = k
    · subst e
      rw [upd_same]
      exact World.cell?_setCell_same' _ _ _ (by rw [hK i hi]; rfl)
    · rw [upd_ne _ _ e, World.cell?_setCell_other _ _ _ _ (fun h => by injection h; omega)]
      exact hK i hi
  · by_cases e : i = k
    · subst e; rw [upd_same]; exact hv
    · rw [upd_ne _ _ e]; exact hV i hi
theorem swpI_upd (f : Nat → Int) (i j : Nat) : upd (upd f i (f j)) j (f i) = swp f i j := by
  funext k
  unfold upd swp
  repeat' split
  all_goals first | rfl | (subst_vars; rfl) | (exfalso; omega)
end
theorem insSortI_any {lt : Int → Int → Prop} {less : Int → Int → Bool} {c : Int → Int → Int} (hc : ∀ x y, decide (c x y < 0) = less x y) (O : Ord2 less lt) (V : Int → Prop) (fn : FuncId) (lb : Array Value) (eg : ∀ args w, (callFunc fn args).run Tryd.prog w = .ok (.enter fn args) w)
    (g n cap a b : Nat) (S : World → Prop) (hS : ∀ W W', S W → W.grownBy W' (some g) → S W') (hcmp : ∀ W x y, S W → V x → V y → Calls Tryd.prog fn (#[.int .i64 x, .int .i64 y] ++ lb) W fun e w' => e = .returned (.int .i64 (c x y)) ∧ Below W.heap.size W w')
    (F0 : Nat → Int) (w : World) (hw : S w) (hr : IBR V w g n F0) (hab : a ≤ b) (hb : b ≤ n) (hn : n ≤ 1000000) (hp : ∀ x y, a ≤ x → x < y → y < b → Ahead less lt (F0 x) (F0 y)) :
    Calls Tryd.prog 111 #[.slice (some ⟨g, 0, none⟩) n cap, .int .i64 a, .int .i64 b, .func (.func fn) #[] lb] w fun e w' => e = .returned (.tuple #[]) ∧ ∃ f', IBR V w' g n f' ∧ MQ lt F0 f' a b ∧ w.grownBy w' (some g) := by
  have HR0 := hide hr
  have HP := hide hp
  have HC := hide hc
  have HCM := hide (fun W x y (h : w.grownBy W (some g)) hx hy => hcmp W x y (hS w W hw h) hx hy)
  clear hr hp hc hcmp hw hS
  have HN : Hid (∃ i : Nat, i = a + 1) := hide ⟨_, rfl⟩
  obtain ⟨i0, hi0⟩ := HN.out
  have w1 : IntKind.i64.wrap ((a : Int) + 1) = (i0 : Int) := by rw [IntWalk.i64_in _ (by omega)]; omega
  have HI0 := hide hi0
  clear hi0 HN
  go_enter Tryd.func111, Tryd.ntmps111
  go_wp2_with fail
  clear w1
  go_loopw [8] (fun x wr => ∃ (i : Nat) (F : Nat → Int), x = .int .i64 i ∧ a + 1 ≤ i ∧ (i ≤ b ∨ b = a) ∧ Hid (IBR V wr g n F) ∧ Hid (MQ lt F0 F a (min i b)) ∧ Hid (w.grownBy wr (some g))) (fun x _ => b - (intOf x).toNat)
  case atStart =>
    have e := HI0.out
    refine ⟨i0, F0, rfl, by omega, by omega, HR0, hide ?_, hide (World.grownBy.refl w _)⟩
    by_cases hz : b = a
    · rw [show min i0 b = a by omega]; exact ins_none F0 a
    · rw [show min i0 b = a + 1 by omega]; exact ins_one F0 a
  case round =>
    obtain ⟨i, F, rfl, hai, hib, HR, HM, HG⟩ := hrel
    by_cases hlt : i < b
    · have HM' : Hid (MQ lt F0 F a i) := hide (by have := HM.out; rwa [show min i b = i by omega] at this)
      clear HM
      have hlt' : (i : Int) < (b : Int) := by omega
      go_wp2_with fail
      obtain ⟨wo, hwo⟩ : ∃ wo, wo = wr := ⟨_, rfl⟩
      subst hwo
      go_loopw [9] (fun x wq => ∃ j : Nat, x = .int .i64 j ∧ a ≤ j ∧ j ≤ i ∧ Hid (j < i → less (F i) (F j) = true) ∧ Hid (IBR V wq g n (rotF F j i (i + 1))) ∧ Hid (w.grownBy wq (some g))) (fun x _ => (intOf x).toNat)
      case atStart => exact ⟨i, rfl, by omega, by omega, hide (fun h => absurd h (by omega)), hide (by rw [rot_same]; exact HR.out), HG⟩
      case round =>
        obtain ⟨j, rfl, haj, hji, Q2, HR1, HG1⟩ := hrel
        by_cases hja : a < j
        · -- BEGIN1
          have hja' : (a : Int) < (j : Int) := by omega
          obtain ⟨A, hA⟩ : ∃ A : Nat, A = j := ⟨_, rfl⟩
          obtain ⟨B, hB⟩ : ∃ B : Nat, j = B + 1 := ⟨j - 1, by omega⟩
          have HST := hide (swp_back F (i := i) (j := B) (by omega))
          have HINS := hide (fun (h : less (F i) (F B) = false) => ins_step O HM'.out HP.out hlt haj hji (fun _ => (by rw [show j - 1 = B by omega]; exact h)) Q2.out)
          have HF1 := hide (rot_at F (i := i) (j := j) (by omega))
          have HF2 := hide (rot_before F (i := i) (j := j) (k := B) (by omega))
          have ha : A < n := by omega
          have hb' : B < n := by omega
          have i1 : (0 : Int) ≤ (A : Int) := by omega
          have i2 : (A : Int) < (n : Int) := by omega
          have i3 : (0 : Int) ≤ (B : Int) := by omega
          have i4 : (B : Int) < (n : Int) := by omega
          have w2 : IntKind.i64.wrap ((A : Int) - 1) = (B : Int) := by rw [IntWalk.i64_in _ (by omega)]; omega
          have HKB := hide (show A = B + 1 by omega)
          rw [← hB, ← hA] at HST
          rw [← hA] at HR1 HF1 HF2 HINS hja' ⊢
          have HA := hide hA
          clear hB hA
          generalize rotF F A i (i + 1) = F' at HR1 HST HF1 HF2 HINS
          go_upto_region 4 with fail
          have Bd := hide (Below.refl wr.heap.size wr).drew
          have HSB : Hid (∀ W, Below wr.heap.size wr W → (W.cell? ⟨g, A, none⟩ = some (.int .i64 (F' A)) ∧ W.cell? ⟨g, B, none⟩ = some (.int .i64 (F' B)))) := hide (fun W hW => ⟨(HR1.out.ext hW).cells A ha, (HR1.out.ext hW).cells B hb'⟩)
          refine wp_region_J (fun W : World => (W.cell? ⟨g, A, none⟩ = some (.int .i64 (F' A)) ∧ W.cell? ⟨g, B, none⟩ = some (.int .i64 (F' B)))) (by kernel_rfl) ?_
          have HGQ := hide (HG1.out.trans (below_grown' Bd.out _))
          generalize wr.drew = wd at Bd HGQ ⊢
          refine tk_start [0, 1, 2, 3, 4, 5, 6, 7, 8, 9, 10, 11, 12, 13] ?_
          iterate 14
            refine tk_one (v := ?_) (by first | exact hF | exact wideFn) (HSB.out _ Bd.out) rfl (by kernel_rfl) (by kernel_rfl) (by kernel_rfl) (by kernel_rfl) rfl ?_ (by first | exact fun _ _ _ h => h | exact fun _ _ _ h => hQ2 _ _ _ _ _ h) ?_
            rotate_left
            · intro W hSW
              simp only [glA, glB, glC]
              (try dsimp only at hSW)
              go_simp
              with_reducible rfl
            (try simp only [glA, glB, glC, Act.put, glD, glE, glF])
          refine tk_end ?_
          refine wpAnyJ_one 14 rfl (by kernel_rfl) (fun K hK => ?_)
          simp only [glA, glB, glC]
          go_simp
          refine ⟨trivial, rfl, ?_⟩
          (with_reducible refine (callsIn_wide.2 (HCM.out _ (F' A) (F' B) HGQ.out (HR1.out.val A ha) (HR1.out.val B hb'))).mono ?_)
          rintro e w5 ⟨rfl, hb5⟩
          have HB5 := hide (Bd.out.trans (hb5.mono Bd.out.size)); clear hb5
          dsimp only
          refine hK.out _ _ (fun _ => HSB.out _ HB5.out) ?_
          clear hK K
          (try simp only [glA, glB, glC, Act.put, glD, glE, glF])
          refine wpAnyJ_take 15 (v := ?_) (by first | exact hF | exact wideFn) (HSB.out _ HB5.out) rfl (by kernel_rfl) (by kernel_rfl) (by kernel_rfl) (by kernel_rfl) rfl ?_ (by first | exact fun _ _ _ h => h | exact fun _ _ _ h => hQ2 _ _ _ _ _ h) ?_
          rotate_left
          · intro W hSW
            simp only [glA, glB, glC]
            (try dsimp only at hSW)
            go_simp
            with_reducible rfl
          (try simp only [glA, glB, glC, Act.put, glD, glE, glF])
          refine wpAnyJ_take 16 (v := ?_) (by first | exact hF | exact wideFn) (HSB.out _ HB5.out) rfl (by kernel_rfl) (by kernel_rfl) (by kernel_rfl) (by kernel_rfl) rfl ?_ (by first | exact fun _ _ _ h => h | exact fun _ _ _ h => hQ2 _ _ _ _ _ h) ?_
          rotate_left
          · intro W hSW
            simp only [glA, glB, glC]
            (try dsimp only at hSW)
            go_simp
            with_reducible rfl
          (try simp only [glA, glB, glC, Act.put, glD, glE, glF])
          refine wpAnyJ_done (by kernel_rfl) ?_
          have HR := hide (HR1.out.ext HB5.out)
          have HG := hide (HG1.out.trans (below_grown' HB5.out _))
          have hcc := HC.out (F' A) (F' B)
          obtain ⟨cv, hcv⟩ : ∃ x, c (F' A) (F' B) = x := ⟨_, rfl⟩
          rw [hcv] at hcc ⊢
          clear hcv
          generalize hq : decide (cv < 0) = q at hcc ⊢
          have hq' : less (F' A) (F' B) = q := hcc.symm
          clear hcc
          clear hq
          rw [HF1.out, HF2.out] at hq'
          have HL := hide hq'
          clear hq' HR1 HG1 HF1 HF2 HSB Bd HB5
          obtain ⟨wr, hwr⟩ : ∃ wr, wr = w5 := ⟨_, rfl⟩
          subst hwr
          rcases q with _ | _
          · go_wp2_with fail
            go_roundw
            case rel =>
              exact ⟨i + 1, F', by go_num, by omega, by omega, HR, hide (by rw [show min (i + 1) b = i + 1 by omega]; exact HINS.out HL.out), HG⟩
            case measure => simp [intOf]; omega
          · go_upto_region 6 with fail
            have Bd := hide (Below.refl wr.heap.size wr).drew
            have HRd := hide (HR.out.ext Bd.out)
            have HGd := hide (HG.out.trans (below_grown' Bd.out _))
            have HS : Hid ((wr.drew.cell? ⟨g, A, none⟩ = some (.int .i64 (F' A)) ∧ wr.drew.cell? ⟨g, B, none⟩ = some (.int .i64 (F' B)))) := hide ⟨(HRd.out.cells A ha), HRd.out.cells B hb'⟩
            refine wp_region_K (pickS [9, 13] (fun W => (W.cell? ⟨g, A, none⟩ = some (.int .i64 (F' A)) ∧ W.cell? ⟨g, B, none⟩ = some (.int .i64 (F' B)))) (fun _ => True)) (by kernel_rfl) ?_
            generalize wr.drew = wd at HRd HGd HS ⊢
            refine wpAnyK_take 0 (v := ?_) (by first | exact hF | exact wideFn) trivial rfl (by kernel_rfl) (by kernel_rfl) (by kernel_rfl) (by kernel_rfl) rfl ?_ (by first | exact fun _ _ _ h => h | exact fun _ _ _ h => hQ2 _ _ _ _ _ h) ?_
            rotate_left
            · intro W hSW
              replace hSW : True := hSW
              simp only [glA, glB, glC]
              (try dsimp only at hSW)
              go_simp
              with_reducible rfl
            (try simp only [glA, glB, glC, Act.put, glD, glE, glF])
            refine wpAnyK_take 1 (v := ?_) (by first | exact hF | exact wideFn) trivial rfl (by kernel_rfl) (by kernel_rfl) (by kernel_rfl) (by kernel_rfl) rfl ?_ (by first | exact fun _ _ _ h => h | exact fun _ _ _ h => hQ2 _ _ _ _ _ h) ?_
            rotate_left
            · intro W hSW
              replace hSW : True := hSW
              simp only [glA, glB, glC]
              (try dsimp only at hSW)
              go_simp
              with_reducible rfl
            (try simp only [glA, glB, glC, Act.put, glD, glE, glF])
            refine wpAnyK_take 2 (v := ?_) (by first | exact hF | exact wideFn) trivial rfl (by kernel_rfl) (by kernel_rfl) (by kernel_rfl) (by kernel_rfl) rfl ?_ (by first | exact fun _ _ _ h => h | exact fun _ _ _ h => hQ2 _ _ _ _ _ h) ?_
            rotate_left
            · intro W hSW
              replace hSW : True := hSW
              simp only [glA, glB, glC]
              (try dsimp only at hSW)
              go_simp
              with_reducible rfl
            (try simp only [glA, glB, glC, Act.put, glD, glE, glF])
            refine wpAnyK_take 3 (v := ?_) (by first | exact hF | exact wideFn) trivial rfl (by kernel_rfl) (by kernel_rfl) (by kernel_rfl) (by kernel_rfl) rfl ?_ (by first | exact fun _ _ _ h => h | exact fun _ _ _ h => hQ2 _ _ _ _ _ h) ?_
            rotate_left
            · intro W hSW
              replace hSW : True := hSW
              simp only [glA, glB, glC]
              (try dsimp only at hSW)
              go_simp
              with_reducible rfl
            (try simp only [glA, glB, glC, Act.put, glD, glE, glF])
            refine wpAnyK_take 4 (v := ?_) (by first | exact hF | exact wideFn) trivial rfl (by kernel_rfl) (by kernel_rfl) (by kernel_rfl) (by kernel_rfl) rfl ?_ (by first | exact fun _ _ _ h => h | exact fun _ _ _ h => hQ2 _ _ _ _ _ h) ?_
            rotate_left
            · intro W hSW
              replace hSW : True := hSW
              simp only [glA, glB, glC]
              (try dsimp only at hSW)
              go_simp
              with_reducible rfl
            (try simp only [glA, glB, glC, Act.put, glD, glE, glF])
            refine wpAnyK_take 5 (v := ?_) (by first | exact hF | exact wideFn) trivial rfl (by kernel_rfl) (by kernel_rfl) (by kernel_rfl) (by kernel_rfl) rfl ?_ (by first | exact fun _ _ _ h => h | exact fun _ _ _ h => hQ2 _ _ _ _ _ h) ?_
            rotate_left
            · intro W hSW
              replace hSW : True := hSW
              simp only [glA, glB, glC]
              (try dsimp only at hSW)
              go_simp
              with_reducible rfl
            (try simp only [glA, glB, glC, Act.put, glD, glE, glF])
            refine wpAnyK_take 6 (v := ?_) (by first | exact hF | exact wideFn) trivial rfl (by kernel_rfl) (by kernel_rfl) (by kernel_rfl) (by kernel_rfl) rfl ?_ (by first | exact fun _ _ _ h => h | exact fun _ _ _ h => hQ2 _ _ _ _ _ h) ?_
            rotate_left
            · intro W hSW
              replace hSW : True := hSW
              simp only [glA, glB, glC]
              (try dsimp only at hSW)
              go_simp
              with_reducible rfl
            (try simp only [glA, glB, glC, Act.put, glD, glE, glF])
            refine wpAnyK_take 7 (v := ?_) (by first | exact hF | exact wideFn) trivial rfl (by kernel_rfl) (by kernel_rfl) (by kernel_rfl) (by kernel_rfl) rfl ?_ (by first | exact fun _ _ _ h => h | exact fun _ _ _ h => hQ2 _ _ _ _ _ h) ?_
            rotate_left
            · intro W hSW
              replace hSW : True := hSW
              simp only [glA, glB, glC]
              (try dsimp only at hSW)
              go_simp
              with_reducible rfl
            (try simp only [glA, glB, glC, Act.put, glD, glE, glF])
            refine wpAnyK_take 8 (v := ?_) (by first | exact hF | exact wideFn) trivial rfl (by kernel_rfl) (by kernel_rfl) (by kernel_rfl) (by kernel_rfl) rfl ?_ (by first | exact fun _ _ _ h => h | exact fun _ _ _ h => hQ2 _ _ _ _ _ h) ?_
            rotate_left
            · intro W hSW
              replace hSW : True := hSW
              simp only [glA, glB, glC]
              (try dsimp only at hSW)
              go_simp
              with_reducible rfl
            (try simp only [glA, glB, glC, Act.put, glD, glE, glF])
            refine wpAnyK_take 9 (v := ?_) (by first | exact hF | exact wideFn) (And.intro HS.out trivial) rfl (by kernel_rfl) (by kernel_rfl) (by kernel_rfl) (by kernel_rfl) rfl ?_ (by first | exact fun _ _ _ h => h | exact fun _ _ _ h => hQ2 _ _ _ _ _ h) ?_
            rotate_left
            · intro W hSW
              replace hSW : (((W.cell? ⟨g, A, none⟩ = some (.int .i64 (F' A)) ∧ W.cell? ⟨g, B, none⟩ = some (.int .i64 (F' B)))) ∧ True) := hSW
              simp only [glA, glB, glC]
              (try dsimp only at hSW)
              go_simp
              with_reducible rfl
            (try simp only [glA, glB, glC, Act.put, glD, glE, glF])
            refine wpAnyK_take 10 (v := ?_) (by first | exact hF | exact wideFn) trivial rfl (by kernel_rfl) (by kernel_rfl) (by kernel_rfl) (by kernel_rfl) rfl ?_ (by first | exact fun _ _ _ h => h | exact fun _ _ _ h => hQ2 _ _ _ _ _ h) ?_
            rotate_left
            · intro W hSW
              replace hSW : True := hSW
              simp only [glA, glB, glC]
              (try dsimp only at hSW)
              go_simp
              with_reducible rfl
            (try simp only [glA, glB, glC, Act.put, glD, glE, glF])
            refine wpAnyK_take 11 (v := ?_) (by first | exact hF | exact wideFn) trivial rfl (by kernel_rfl) (by kernel_rfl) (by kernel_rfl) (by kernel_rfl) rfl ?_ (by first | exact fun _ _ _ h => h | exact fun _ _ _ h => hQ2 _ _ _ _ _ h) ?_
            rotate_left
            · intro W hSW
              replace hSW : True := hSW
              simp only [glA, glB, glC]
              (try dsimp only at hSW)
              go_simp
              with_reducible rfl
            (try simp only [glA, glB, glC, Act.put, glD, glE, glF])
            refine wpAnyK_take 12 (v := ?_) (by first | exact hF | exact wideFn) trivial rfl (by kernel_rfl) (by kernel_rfl) (by kernel_rfl) (by kernel_rfl) rfl ?_ (by first | exact fun _ _ _ h => h | exact fun _ _ _ h => hQ2 _ _ _ _ _ h) ?_
            rotate_left
            · intro W hSW
              replace hSW : True := hSW
              simp only [glA, glB, glC]
              (try dsimp only at hSW)
              go_simp
              with_reducible rfl
            (try simp only [glA, glB, glC, Act.put, glD, glE, glF])
            refine wpAnyK_take 13 (v := ?_) (by first | exact hF | exact wideFn) (And.intro HS.out trivial) rfl (by kernel_rfl) (by kernel_rfl) (by kernel_rfl) (by kernel_rfl) rfl ?_ (by first | exact fun _ _ _ h => h | exact fun _ _ _ h => hQ2 _ _ _ _ _ h) ?_
            rotate_left
            · intro W hSW
              replace hSW : (((W.cell? ⟨g, A, none⟩ = some (.int .i64 (F' A)) ∧ W.cell? ⟨g, B, none⟩ = some (.int .i64 (F' B)))) ∧ True) := hSW
              simp only [glA, glB, glC]
              (try dsimp only at hSW)
              go_simp
              with_reducible rfl
            (try simp only [glA, glB, glC, Act.put, glD, glE, glF])
            refine wpAnyK_take 14 (v := ?_) (by first | exact hF | exact wideFn) trivial rfl (by kernel_rfl) (by kernel_rfl) (by kernel_rfl) (by kernel_rfl) rfl ?_ (by first | exact fun _ _ _ h => h | exact fun _ _ _ h => hQ2 _ _ _ _ _ h) ?_
            rotate_left
            · intro W hSW
              replace hSW : True := hSW
              simp only [glA, glB, glC]
              (try dsimp only at hSW)
              go_simp
              with_reducible rfl
            (try simp only [glA, glB, glC, Act.put, glD, glE, glF])
            obtain ⟨p0, p1, p3⟩ := HRd.out.at_ ha
            have HR1 := hide (HRd.out.put ha (F' B) (HRd.out.val B hb'))
            have HG1 := hide (grownBy_setS HGd.out A (.int .i64 (F' B)))
            refine wpAnyK_one 15 rfl (by kernel_rfl) (fun K hK => ?_)
            simp only [glA, glB, glC]
            go_simp
            refine hK.out _ _ (.inr (pickS_need (by kernel_rfl) trivial)) ?_
            clear hK K
            (try simp only [glA, glB, glC, Act.put, glD, glE, glF])
            clear p0 p1 p3
            generalize (wd.setCell ⟨g, A, none⟩ (.int .i64 (F' B))) = w1 at HR1 HG1 ⊢
            have HR2 := hide (HR1.out.put hb' (F' A) (HRd.out.val A ha))
            have HG2 := hide (grownBy_setS HG1.out B (.int .i64 (F' A)))
            rw [swpI_upd, HST.out] at HR2
            obtain ⟨p0, p1, p3⟩ := HR1.out.at_ hb'
            refine wpAnyK_take 16 (v := ?_) (by first | exact hF | exact wideFn) trivial rfl (by kernel_rfl) (by kernel_rfl) (by kernel_rfl) (by kernel_rfl) rfl ?_ (by first | exact fun _ _ _ h => h | exact fun _ _ _ h => hQ2 _ _ _ _ _ h) ?_
            rotate_left
            · intro W hSW
              replace hSW : True := hSW
              simp only [glA, glB, glC]
              (try dsimp only at hSW)
              go_simp
              with_reducible rfl
            (try simp only [glA, glB, glC, Act.put, glD, glE, glF])
            refine wpAnyK_one 17 rfl (by kernel_rfl) (fun K hK => ?_)
            simp only [glA, glB, glC]
            go_simp
            refine hK.out _ _ (.inr (pickS_no (by kernel_rfl))) ?_
            clear hK K
            (try simp only [glA, glB, glC, Act.put, glD, glE, glF])
            refine wpAnyK_done (by kernel_rfl) ?_
            clear p0 p1 p3
            generalize (w1.setCell ⟨g, B, none⟩ (.int .i64 (F' A))) = w2 at HR2 HG2 ⊢
            go_wp2_with fail
            go_roundw
            case rel => exact ⟨B, rfl, by have := HKB.out; have := HA.out; omega, by have := HKB.out; have := HA.out; omega, hide (fun _ => HL.out), HR2, HG2⟩
            case measure => have := HKB.out; have := HA.out; simp [intOf]; omega
          -- END1
        · -- BEGIN2
          obtain rfl : a = j := by omega
          go_upto_region 4 with fail
          have Bd := hide (Below.refl wr.heap.size wr).drew
          refine wp_region_J (fun W : World => True) (by kernel_rfl) ?_
          generalize wr.drew = wd at Bd ⊢
          refine tk_start [0, 1, 2, 3] ?_
          iterate 4
            refine tk_one (v := ?_) (by first | exact hF | exact wideFn) trivial rfl (by kernel_rfl) (by kernel_rfl) (by kernel_rfl) (by kernel_rfl) rfl ?_ (by first | exact fun _ _ _ h => h | exact fun _ _ _ h => hQ2 _ _ _ _ _ h) ?_
            rotate_left
            · intro W hSW
              simp only [glA, glB, glC]
              (try dsimp only at hSW)
              go_simp
              with_reducible rfl
            (try simp only [glA, glB, glC, Act.put, glD, glE, glF])
          refine tk_end ?_
          refine wpAnyJ_skip 4 (by first | exact hF | exact wideFn) trivial rfl (by kernel_rfl) (by kernel_rfl) (by kernel_rfl) (by kernel_rfl) rfl (by first | exact fun _ _ _ h => h | exact fun _ _ _ h => hQ2 _ _ _ _ _ h) ?_
          (try simp only [glA, glB, glC, Act.put, glD, glE, glF])
          refine wpAnyJ_skip 5 (by first | exact hF | exact wideFn) trivial rfl (by kernel_rfl) (by kernel_rfl) (by kernel_rfl) (by kernel_rfl) rfl (by first | exact fun _ _ _ h => h | exact fun _ _ _ h => hQ2 _ _ _ _ _ h) ?_
          (try simp only [glA, glB, glC, Act.put, glD, glE, glF])
          refine wpAnyJ_skip 6 (by first | exact hF | exact wideFn) trivial rfl (by kernel_rfl) (by kernel_rfl) (by kernel_rfl) (by kernel_rfl) rfl (by first | exact fun _ _ _ h => h | exact fun _ _ _ h => hQ2 _ _ _ _ _ h) ?_
          (try simp only [glA, glB, glC, Act.put, glD, glE, glF])
          refine wpAnyJ_skip 7 (by first | exact hF | exact wideFn) trivial rfl (by kernel_rfl) (by kernel_rfl) (by kernel_rfl) (by kernel_rfl) rfl (by first | exact fun _ _ _ h => h | exact fun _ _ _ h => hQ2 _ _ _ _ _ h) ?_
          (try simp only [glA, glB, glC, Act.put, glD, glE, glF])
          refine wpAnyJ_skip 8 (by first | exact hF | exact wideFn) trivial rfl (by kernel_rfl) (by kernel_rfl) (by kernel_rfl) (by kernel_rfl) rfl (by first | exact fun _ _ _ h => h | exact fun _ _ _ h => hQ2 _ _ _ _ _ h) ?_
          (try simp only [glA, glB, glC, Act.put, glD, glE, glF])
          refine wpAnyJ_skip 9 (by first | exact hF | exact wideFn) trivial rfl (by kernel_rfl) (by kernel_rfl) (by kernel_rfl) (by kernel_rfl) rfl (by first | exact fun _ _ _ h => h | exact fun _ _ _ h => hQ2 _ _ _ _ _ h) ?_
          (try simp only [glA, glB, glC, Act.put, glD, glE, glF])
          refine wpAnyJ_skip 10 (by first | exact hF | exact wideFn) trivial rfl (by kernel_rfl) (by kernel_rfl) (by kernel_rfl) (by kernel_rfl) rfl (by first | exact fun _ _ _ h => h | exact fun _ _ _ h => hQ2 _ _ _ _ _ h) ?_
          (try simp only [glA, glB, glC, Act.put, glD, glE, glF])
          refine wpAnyJ_skip 11 (by first | exact hF | exact wideFn) trivial rfl (by kernel_rfl) (by kernel_rfl) (by kernel_rfl) (by kernel_rfl) rfl (by first | exact fun _ _ _ h => h | exact fun _ _ _ h => hQ2 _ _ _ _ _ h) ?_
          (try simp only [glA, glB, glC, Act.put, glD, glE, glF])
          refine wpAnyJ_skip 12 (by first | exact hF | exact wideFn) trivial rfl (by kernel_rfl) (by kernel_rfl) (by kernel_rfl) (by kernel_rfl) rfl (by first | exact fun _ _ _ h => h | exact fun _ _ _ h => hQ2 _ _ _ _ _ h) ?_
          (try simp only [glA, glB, glC, Act.put, glD, glE, glF])
          refine wpAnyJ_skip 13 (by first | exact hF | exact wideFn) trivial rfl (by kernel_rfl) (by kernel_rfl) (by kernel_rfl) (by kernel_rfl) rfl (by first | exact fun _ _ _ h => h | exact fun _ _ _ h => hQ2 _ _ _ _ _ h) ?_
          (try simp only [glA, glB, glC, Act.put, glD, glE, glF])
          refine wpAnyJ_skip 14 (by first | exact hF | exact wideFn) trivial rfl (by kernel_rfl) (by kernel_rfl) (by kernel_rfl) (by kernel_rfl) rfl (by first | exact fun _ _ _ h => h | exact fun _ _ _ h => hQ2 _ _ _ _ _ h) ?_
          (try simp only [glA, glB, glC, Act.put, glD, glE, glF])
          refine wpAnyJ_skip 15 (by first | exact hF | exact wideFn) trivial rfl (by kernel_rfl) (by kernel_rfl) (by kernel_rfl) (by kernel_rfl) rfl (by first | exact fun _ _ _ h => h | exact fun _ _ _ h => hQ2 _ _ _ _ _ h) ?_
          (try simp only [glA, glB, glC, Act.put, glD, glE, glF])
          refine wpAnyJ_take 16 (v := ?_) (by first | exact hF | exact wideFn) trivial rfl (by kernel_rfl) (by kernel_rfl) (by kernel_rfl) (by kernel_rfl) rfl ?_ (by first | exact fun _ _ _ h => h | exact fun _ _ _ h => hQ2 _ _ _ _ _ h) ?_
          rotate_left
          · intro W hSW
            simp only [glA, glB, glC]
            (try dsimp only at hSW)
            go_simp
            with_reducible rfl
          (try simp only [glA, glB, glC, Act.put, glD, glE, glF])
          refine wpAnyJ_done (by kernel_rfl) ?_
          go_wp2_with fail
          go_roundw
          case rel => exact ⟨i + 1, _, by go_num, by omega, by omega, hide (HR1.out.ext Bd.out), hide (by rw [show min (i + 1) b = i + 1 by omega]; exact ins_step O HM'.out HP.out hlt haj hji (fun h => absurd h (by omega)) Q2.out), hide (HG1.out.trans (below_grown' Bd.out _))⟩
          case measure => simp [intOf]; omega
          -- END2
    · have hlt' : ¬ (i : Int) < (b : Int) := by omega
      go_wp2_with fail
      go_end0
      exact ⟨rfl, F, HR.out, (by have := HM.out; rwa [show min i b = b by omega] at this), HG.out⟩
end Go.Proofs.YtlkkkgpcjdemdaaDoor
