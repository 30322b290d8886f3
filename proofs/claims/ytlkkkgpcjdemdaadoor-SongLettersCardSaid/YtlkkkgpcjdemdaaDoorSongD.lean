/- Song: the iterator over syllables, walked. -/
import Derived.Test.YtlkkkgpcjdemdaaDoorSongC
import Derived.Lib.SlBytesConst
import Derived.Maps.OwnSet
import Derived.DeepKeys4
import Derived.RangeFuncLeaves
set_option linter.unusedSimpArgs false
set_option linter.unusedVariables false
set_option linter.unnecessarySimpa false
namespace Go.Proofs.YtlkkkgpcjdemdaaDoor
open Go Go.RowKit Go.Shelf
attribute [local go_sem] Oper.semAt_some
set_option maxHeartbeats 8000000
set_option maxRecDepth 100000
theorem encode_one (b : UInt8) (hb : b.toNat < 128) : Utf8.encode (b.toNat : Int) = ⟨#[b]⟩ := by
  have hv : Utf8.valid (b.toNat : Int) = true := by rw [validRune_eq]; exact decide_eq_true (by omega)
  unfold Utf8.encode
  rw [if_pos hv, if_pos (by omega)]
  simp
theorem iter_out {a b : Nat} {W W' : World} (h : KeepB a b W W') {it p : Nat} {s : ByteArray} (hi : W.heap[it]? = some (.stringIter s p)) (h1 : a ≤ it) (h2 : it < b) : W'.heap[it]? = some (.stringIter s p) := (h.block it h1 h2).trans hi
theorem SyB.keep {W W' : World} {N M l : Nat} {h v t : List UInt8} (k : SyB W N l h v t) (hk : KeepB N M W W') (hM : N + 4 ≤ M) : SyB W' N l h v t :=
  ⟨hk.blk k.y (by omega) (by omega), hk.blk k.h (by omega) (by omega), hk.blk k.v (by omega) (by omega), hk.blk k.t (by omega) (by omega)⟩
theorem syl_nil (h v t : List UInt8) : syl [] h v t = [tlS true h v t] := rfl
theorem syl_v1 {c : UInt8} {r h t : List UInt8} (hc : vwB c.toNat = true) : syl (c :: r) h [] t = syl r h [c] t := by
  show (if vwB c.toNat then _ else _) = _; rw [if_pos hc]; rfl
theorem syl_v2 {c d : UInt8} {r h t : List UInt8} (hc : vwB c.toNat = true) : syl (c :: r) h [d] t = tlS false h [d] t :: syl r (tlN false h [d] t) [c] [] := by
  show (if vwB c.toNat then _ else _) = _; rw [if_pos hc]; rfl
theorem syl_c1 {c : UInt8} {r h t : List UInt8} (hc : vwB c.toNat = false) : syl (c :: r) h [] t = syl r (h ++ [c]) [] t := by
  show (if vwB c.toNat then _ else _) = _; rw [if_neg (by rw [hc]; exact Bool.false_ne_true)]; rfl
theorem syl_c2 {c d : UInt8} {r h t : List UInt8} (hc : vwB c.toNat = false) : syl (c :: r) h [d] t = syl r h [d] (t ++ [c]) := by
  show (if vwB c.toNat then _ else _) = _; rw [if_neg (by rw [hc]; exact Bool.false_ne_true)]; rfl
theorem drop_at {l : List UInt8} {k : Nat} (h : k < l.length) : l.drop k = l.getD k 0 :: l.drop (k + 1) := by
  rw [List.getD_eq_getElem?_getD, List.getElem?_eq_getElem h, List.drop_eq_getElem_cons h]; rfl
theorem tlN_len (last : Bool) (h v t : List UInt8) : (tlN last h v t).length ≤ 1 := by
  unfold tlN; split
  · rw [List.length_drop]; omega
  · simp
/-- where the iterator stands: k letters are behind it -/
structure SyW (W : World) (N M it l : Nat) (J : Nat → List Syl → World → Prop) (ls : List UInt8) (k : Nat) (pre : List Syl) (h v t : List UInt8) : Prop where
  b : SyB W N l h v t
  j : J M pre W
  i : W.heap[it]? = some (.stringIter ⟨ls.toArray⟩ k)
  m : M ≤ W.heap.size
structure SyP (ls : List UInt8) (k : Nat) (pre : List Syl) (h v t : List UInt8) : Prop where
  e : pre ++ syl (ls.drop k) h v t = syl ls [] [] []
  s : h.length + t.length ≤ k
  v1 : v = [] ∨ ∃ d, v = [d] ∧ d.toNat < 128
  v2 : v = [] → ((ls.drop k).any fun b => vwB b.toNat) = true
section
variable {W W' : World} {N M it l k : Nat} {J : Nat → List Syl → World → Prop} {ls : List UInt8} {pre : List Syl} {h v t : List UInt8}
theorem SyW.ext (k1 : SyW W N M it l J ls k pre h v t) (hJ : ∀ M s W1 W2, J M s W1 → OutK N M W1 W2 → J M s W2) (hb : Below W.heap.size W W') : SyW W' N M it l J ls k pre h v t :=
  ⟨k1.b.ext hb, hJ _ _ _ _ k1.j (OutK.of_below hb), (hb.block it (iter_lt k1.i)).trans k1.i, Nat.le_trans k1.m hb.size⟩
theorem SyW.next (k1 : SyW W N M it l J ls k pre h v t) (hJ : ∀ M s W1 W2, J M s W1 → OutK N M W1 W2 → J M s W2) (h1 : N + 4 ≤ it) (h2 : it < M) : SyW (W.iterAt it ⟨ls.toArray⟩ (k + 1)) N M it l J ls (k + 1) pre h v t := by
  have hb := Lib.below_iterAt (Below.refl it W) (Nat.le_refl it) ⟨ls.toArray⟩ (k + 1)
  have ho : OutK N M W (W.iterAt it ⟨ls.toArray⟩ (k + 1)) := ⟨rfl, rfl, rfl, by rw [Lib.iterAt_size]; exact Nat.le_refl _, fun j _ hn => Lib.iterAt_other W it j _ _ (fun e => hn (by omega))⟩
  exact ⟨⟨k1.b.y.below hb (by omega), k1.b.h.below hb (by omega), k1.b.v.below hb (by omega), k1.b.t.below hb (by omega)⟩, hJ _ _ _ _ k1.j ho, Lib.iterAt_heap W it _ k (k + 1) k1.i, by rw [Lib.iterAt_size]; exact k1.m⟩
theorem heap_set_ne {g j : Nat} (i : Nat) (x : Value) (h : j ≠ g) : (W.setCell ⟨g, i, none⟩ x).heap[j]? = W.heap[j]? := Below.heap_setCell _ _ _ j h
theorem SyW.setH (k1 : SyW W N M it l J ls k pre h v t) (hJ : ∀ M s W1 W2, J M s W1 → OutK N M W1 W2 → J M s W2) (h1 : N + 4 ≤ it) (h2 : it < M) (h' : List UInt8) : SyW (W.setCell ⟨N + 1, 0, none⟩ (.string ⟨h'.toArray⟩)) N M it l J ls k pre h' v t :=
  ⟨⟨k1.b.y.far (by dsimp only; omega) _, k1.b.h.set_ 0 _, k1.b.v.far (by dsimp only; omega) _, k1.b.t.far (by dsimp only; omega) _⟩, hJ _ _ _ _ k1.j (OutK.set W (by omega) (by omega) 0 _), (heap_set_ne 0 _ (by omega)).trans k1.i, by rw [size_set]; exact k1.m⟩
theorem SyW.setV (k1 : SyW W N M it l J ls k pre h v t) (hJ : ∀ M s W1 W2, J M s W1 → OutK N M W1 W2 → J M s W2) (h1 : N + 4 ≤ it) (h2 : it < M) (v' : List UInt8) : SyW (W.setCell ⟨N + 2, 0, none⟩ (.string ⟨v'.toArray⟩)) N M it l J ls k pre h v' t :=
  ⟨⟨k1.b.y.far (by dsimp only; omega) _, k1.b.h.far (by dsimp only; omega) _, k1.b.v.set_ 0 _, k1.b.t.far (by dsimp only; omega) _⟩, hJ _ _ _ _ k1.j (OutK.set W (by omega) (by omega) 0 _), (heap_set_ne 0 _ (by omega)).trans k1.i, by rw [size_set]; exact k1.m⟩
theorem SyW.setT (k1 : SyW W N M it l J ls k pre h v t) (hJ : ∀ M s W1 W2, J M s W1 → OutK N M W1 W2 → J M s W2) (h1 : N + 4 ≤ it) (h2 : it < M) (t' : List UInt8) : SyW (W.setCell ⟨N + 3, 0, none⟩ (.string ⟨t'.toArray⟩)) N M it l J ls k pre h v t' :=
  ⟨⟨k1.b.y.far (by dsimp only; omega) _, k1.b.h.far (by dsimp only; omega) _, k1.b.v.far (by dsimp only; omega) _, k1.b.t.set_ 0 _⟩, hJ _ _ _ _ k1.j (OutK.set W (by omega) (by omega) 0 _), (heap_set_ne 0 _ (by omega)).trans k1.i, by rw [size_set]; exact k1.m⟩
theorem SyP.a1 {b : UInt8} (p : SyP ls k pre h [] t) (hk : k < ls.length) (hb : ls.getD k 0 = b) (hv : vwB b.toNat = true) (h1 : b.toNat < 128) : SyP ls (k + 1) pre h [b] t := by
  have e := p.e
  rw [drop_at hk, hb, syl_v1 hv] at e
  exact ⟨e, by have := p.s; omega, .inr ⟨b, rfl, h1⟩, fun h => by cases h⟩
theorem SyP.a2 {b d : UInt8} (p : SyP ls k pre h [d] t) (hk : k < ls.length) (hb : ls.getD k 0 = b) (hv : vwB b.toNat = true) (h1 : b.toNat < 128) :
    SyP ls (k + 1) (pre ++ [tlS false h [d] t]) (tlN false h [d] t) [b] [] ∧ pre ++ [tlS false h [d] t] <+: syl ls [] [] [] := by
  have e := p.e
  rw [drop_at hk, hb, syl_v2 hv] at e
  have e2 : (pre ++ [tlS false h [d] t]) ++ syl (ls.drop (k + 1)) (tlN false h [d] t) [b] [] = syl ls [] [] [] := by rw [← e]; simp
  refine ⟨⟨e2, ?_, .inr ⟨b, rfl, h1⟩, fun h => by cases h⟩, ⟨_, e2⟩⟩
  have := tlN_len false h [d] t
  simp; omega
theorem SyP.b1 {b : UInt8} (p : SyP ls k pre h [] t) (hk : k < ls.length) (hb : ls.getD k 0 = b) (hv : vwB b.toNat = false) : SyP ls (k + 1) pre (h ++ [b]) [] t := by
  have e := p.e
  have h2 := p.v2 rfl
  rw [drop_at hk, hb] at e h2
  rw [syl_c1 hv] at e
  rw [List.any_cons, hv, Bool.false_or] at h2
  exact ⟨e, by have := p.s; simp; omega, .inl rfl, fun _ => h2⟩
theorem SyP.b2 {b d : UInt8} (p : SyP ls k pre h [d] t) (hk : k < ls.length) (hb : ls.getD k 0 = b) (hv : vwB b.toNat = false) : SyP ls (k + 1) pre h [d] (t ++ [b]) := by
  have e := p.e
  rw [drop_at hk, hb, syl_c2 hv] at e
  refine ⟨e, by have := p.s; simp; omega, ?_, fun h => by cases h⟩
  rcases p.v1 with h1 | h1
  · cases h1
  · exact .inr h1
theorem SyP.fin (p : SyP ls ls.length pre h v t) : ∃ d, v = [d] ∧ d.toNat < 128 ∧ pre ++ [tlS true h [d] t] = syl ls [] [] [] := by
  have e := p.e
  rw [List.drop_length] at e
  rcases p.v1 with rfl | ⟨d, rfl, hd⟩
  · have := p.v2 rfl
    rw [List.drop_length] at this
    cases this
  · exact ⟨d, rfl, hd, e⟩
end
theorem YieldAt.mono {F : Fence} {m : Nat} {P : Program} {l : Nat} {args : Array Value} {W : World} {R R' : Ending → World → Prop} (h : YieldAt F m P l args W R) (hr : ∀ e w, R e w → R' e w) : YieldAt F m P l args W R' := by
  obtain ⟨fn, tmps, assign, body, h1, h2⟩ := h
  exact ⟨fn, tmps, assign, body, h1, h2.mono hr⟩
theorem SyB.cells {W : World} {N l : Nat} {h v t : List UInt8} (k : SyB W N l h v t) : W.cell? ⟨N, 0, none⟩ = some (.func (.yield l) #[] #[]) ∧ W.cell? ⟨N + 1, 0, none⟩ = some (.string ⟨h.toArray⟩) ∧ W.cell? ⟨N + 2, 0, none⟩ = some (.string ⟨v.toArray⟩) ∧ W.cell? ⟨N + 3, 0, none⟩ = some (.string ⟨t.toArray⟩) :=
  ⟨(bx1 k.y).2, (bx1 k.h).2, (bx1 k.v).2, (bx1 k.t).2⟩
theorem ne_one (d : UInt8) : ¬ (⟨#[d]⟩ : ByteArray).toList = [] ∧ (⟨#[d]⟩ : ByteArray).toList.isEmpty = false := by
  rw [toList_data]
  exact ⟨(by simp), rfl⟩
theorem syl_in (F : Fence) (n : Nat) (hF : ∀ f, F.fn f) (hro : F.round = none) (hroom : ∀ j, F.room j) (hwd : ∀ {m f args w R}, Calls Tryd.prog f args w R → CallsIn F m Tryd.prog f args w R) (hn : 2 ≤ n)
    (l p : Nat) (s : ByteArray) (L : List UInt8) (hl : s.data.toList = L) (hs : s.size ≤ 800) (J : Nat → List Syl → World → Prop) (Jx : List Syl → World → Prop) (W : World)
    (hp : W.cell? ⟨p, 0, none⟩ = some (.string s)) (hasc : ∀ b ∈ ltr L, b.toNat < 128) (hvw : ((ltr L).any fun b => vwB b.toNat) = true) (hML : ML W)
    (h0 : ∀ W1, Below W.heap.size W W1 → J W1.heap.size [] W1)
    (hJ : ∀ M s W1 W2, J M s W1 → OutK W.heap.size M W1 W2 → J M s W2)
    (hY : ∀ M pre x W1, pre ++ [x] <+: sylL L → M ≤ W1.heap.size → J M pre W1 → YieldAt F (n - 1) Tryd.prog l (sylE x) W1 fun e W' =>
      (e = .returned (.bool true) ∧ J M (pre ++ [x]) W' ∧ KeepB W.heap.size M W1 W') ∨ (e = .returned (.bool false) ∧ Jx (pre ++ [x]) W')) :
    CallsIn F n Tryd.prog 98 #[.func (.yield l) #[] #[], .pointer (some ⟨p, 0, none⟩)] W fun e W' => (∃ v, e = .returned v) ∧ ((∃ M, J M (sylL L) W') ∨ ∃ pre, pre <+: sylL L ∧ Jx pre W') := by
  have hn1 : 1 ≤ n := by omega
  have HL := hide (fun W (h : ML W) => letters_any s L hl (by omega) W h)
  have HLE := hide (ltr_le L)
  have HSZ : Hid (L.length ≤ 800) := hide (by rw [size_len hl]; exact hs)
  unfold sylL at hY ⊢
  obtain ⟨ls, hls⟩ : ∃ ls, ltr L = ls := ⟨_, rfl⟩
  rw [hls] at hasc hvw hY HL HLE ⊢
  have HLL : Hid (ls.length ≤ 800) := hide (by have := HLE.out; have := HSZ.out; omega)
  have HASC := hide hasc
  have HVW := hide hvw
  have HM := hide hML
  have H0 := hide h0
  have HJ := hide hJ
  have HY := hide hY
  have hp1 := cell_lt hp
  clear hl hs hls hasc hvw hML h0 hJ hY HLE HSZ
  obtain ⟨N, hN⟩ : ∃ N, W.heap.size = N := ⟨_, rfl⟩
  rw [hN] at HJ HY
  have HN := hide hN
  refine callsIn_of_wp Tryd.func98 rfl (hF _) ?_ hro
  simp only [Tryd.ntmps98, List.size_toArray, List.length_cons, List.length_nil, Nat.reduceAdd, Nat.reduceSub, Array.replicate_succ, Array.replicate_zero, List.push_toArray, List.append_toArray, List.nil_append, List.cons_append]
  have hb4 : Below W.heap.size W ((((W.alloc (.cells #[.func (.yield l) #[] #[]] 155)).alloc (.cells #[.string ⟨#[]⟩] 9)).alloc (.cells #[.string ⟨#[]⟩] 9)).alloc (.cells #[.string ⟨#[]⟩] 9)) := ((((Below.refl _ _).alloc (Nat.le_refl _) _).alloc (by simp) _).alloc (by simp only [World.size_alloc]; omega) _).alloc (by simp only [World.size_alloc]; omega) _
  have hs4 : SyB ((((W.alloc (.cells #[.func (.yield l) #[] #[]] 155)).alloc (.cells #[.string ⟨#[]⟩] 9)).alloc (.cells #[.string ⟨#[]⟩] 9)).alloc (.cells #[.string ⟨#[]⟩] 9)) N l [] [] [] := by
    rw [← hN]
    exact ⟨(((Blk.new W _ _).alloc _).alloc _).alloc _, by simpa using ((Blk.new (W.alloc (.cells #[.func (.yield l) #[] #[]] 155)) 9 #[.string ⟨#[]⟩]).alloc (.cells #[.string ⟨#[]⟩] 9)).alloc (.cells #[.string ⟨#[]⟩] 9), by simpa using (Blk.new ((W.alloc (.cells #[.func (.yield l) #[] #[]] 155)).alloc (.cells #[.string ⟨#[]⟩] 9)) 9 #[.string ⟨#[]⟩]).alloc (.cells #[.string ⟨#[]⟩] 9), by simpa using Blk.new (((W.alloc (.cells #[.func (.yield l) #[] #[]] 155)).alloc (.cells #[.string ⟨#[]⟩] 9)).alloc (.cells #[.string ⟨#[]⟩] 9)) 9 #[.string ⟨#[]⟩]⟩
  have cp4 : ((((W.alloc (.cells #[.func (.yield l) #[] #[]] 155)).alloc (.cells #[.string ⟨#[]⟩] 9)).alloc (.cells #[.string ⟨#[]⟩] 9)).alloc (.cells #[.string ⟨#[]⟩] 9)).cell? ⟨p, 0, none⟩ = some (.string s) := (hb4.cell hp1).trans hp
  have hz4 : ((((W.alloc (.cells #[.func (.yield l) #[] #[]] 155)).alloc (.cells #[.string ⟨#[]⟩] 9)).alloc (.cells #[.string ⟨#[]⟩] 9)).alloc (.cells #[.string ⟨#[]⟩] 9)).heap.size = N + 4 := by simp only [World.size_alloc]; omega
  have HB4 := hide hb4
  have HS4 := hide hs4
  have HZ4 := hide hz4
  clear hb4 hs4 hz4 hp hp1
  gi_wp2_with fail
  (with_reducible refine (hwd (HL.out _ (HM.out.ext HB4.out))).mono ?_)
  rintro e w1 ⟨rfl, hb1⟩
  have hbi : Below ((((W.alloc (.cells #[.func (.yield l) #[] #[]] 155)).alloc (.cells #[.string ⟨#[]⟩] 9)).alloc (.cells #[.string ⟨#[]⟩] 9)).alloc (.cells #[.string ⟨#[]⟩] 9)).heap.size ((((W.alloc (.cells #[.func (.yield l) #[] #[]] 155)).alloc (.cells #[.string ⟨#[]⟩] 9)).alloc (.cells #[.string ⟨#[]⟩] 9)).alloc (.cells #[.string ⟨#[]⟩] 9)) (w1.iter ⟨ls.toArray⟩ 0) := hb1.alloc hb1.size _
  have hit := World.iter_heap w1 ⟨ls.toArray⟩ 0
  have hzi : (w1.iter ⟨ls.toArray⟩ 0).heap.size = w1.heap.size + 1 := by simp [World.iter]
  obtain ⟨it, hie⟩ : ∃ it, w1.heap.size = it := ⟨_, rfl⟩
  have HIT : Hid (N + 4 ≤ it) := hide (by rw [← hie, ← HZ4.out]; exact hb1.size)
  rw [hie] at hit hzi
  have HI0 : Hid (SyW (w1.iter ⟨ls.toArray⟩ 0) N (it + 1) it l J ls 0 [] [] [] []) := hide ⟨HS4.out.ext hbi, by rw [← hzi]; exact H0.out _ (HB4.out.trans (hbi.mono HB4.out.size)), hit, by rw [hzi]; exact Nat.le_refl _⟩
  have HP0 : Hid (SyP ls 0 [] [] [] []) := hide ⟨rfl, Nat.le_refl _, .inl rfl, fun _ => HVW.out⟩
  clear hbi hit hzi hb1
  gi_wp2_with fail
  clear hie hN HB4 HS4 HZ4 HL H0 HM
  generalize w1.iter ⟨ls.toArray⟩ 0 = wq at HI0 ⊢
  simp only [Nat.add_assoc, Nat.reduceAdd]
  have hmix : Tryd.prog.follows .mixedOrders = true := by kernel_rfl
  gi_loopw [8] (fun _ wr => ∃ (k : Nat) (pre : List Syl) (h v t : List UInt8), k ≤ ls.length ∧ Hid (SyW wr N (it + 1) it l J ls k pre h v t) ∧ Hid (SyP ls k pre h v t)) (fun _ wr => ls.length - itP it wr)
  case atStart => exact ⟨0, [], [], [], [], Nat.zero_le _, HI0, HP0⟩
  case round =>
    obtain ⟨k, pre, h, v, t, hk, HI, HP⟩ := hrel
    clear HI0 HP0
    have hmea := itP_of HI.out.i
    have HMEA := hide hmea
    clear hmea
    by_cases hlt : k < ls.length
    · obtain ⟨b, hb⟩ : ∃ b, ls.getD k 0 = b := ⟨_, rfl⟩
      have hb128 : b.toNat < 128 := by rw [← hb]; exact HASC.out _ (getD_mem hlt)
      have hls : (⟨ls.toArray⟩ : ByteArray).size = ls.length := sizeA ls
      have hsb : (⟨ls.toArray⟩ : ByteArray)[k]'(by rw [hls]; exact hlt) = b := by rw [byte_at (l := ls) (by simp) (by rw [hls]; exact hlt), hb]
      have hnx := fun ty => Lib.run_next_ascii_at (P := Tryd.prog) wr it ⟨ls.toArray⟩ k ty HI.out.i (by rw [hls]; exact hlt) (by rw [hsb]; exact hb128)
      rw [hsb] at hnx
      have HI1 := hide (HI.out.next HJ.out HIT.out (Nat.lt_succ_self it))
      generalize wr.iterAt it ⟨ls.toArray⟩ (k + 1) = wx at hnx HI1
      have HVC := hide (fun W => is_vw b.toNat W (by omega))
      have henc := encode_one b hb128
      have HB := hide hb
      clear hb hls hsb HI
      rcases hvw : vwB b.toNat with _ | _
      · rw [hvw] at HVC
        have HVW2 := hide hvw
        clear hvw
        gi_wp2_with fail
        (with_reducible refine (hwd (HVC.out _)).mono ?_)
        rintro e w4 ⟨rfl, hb4⟩
        have HI4 := hide (HI1.out.ext HJ.out (((Below.refl wx.heap.size wx).alloc (Nat.le_refl _) _).trans (hb4.mono (by simp))))
        clear hb4 HI1 hnx
        have hhl := HP.out.s
        have hll := HLL.out
        have hw := HP.out.v1
        rcases hw with rfl | ⟨d, rfl, hd⟩
        · have ha : ∀ w, (Op.stringOp .add (⟨h.toArray⟩ : ByteArray) ⟨#[b]⟩).run Tryd.prog w = .ok (.string ⟨(h ++ [b]).toArray⟩) w := fun w => run_string_add_lists (P := Tryd.prog) w h [b] (by omega) (by simp)
          have HP5 := hide (HP.out.b1 hlt HB.out HVW2.out)
          have HI5 := hide (HI4.out.setH HJ.out HIT.out (Nat.lt_succ_self it) (h ++ [b]))
          obtain ⟨cy, ch, cv, ct⟩ := SyB.cells HI4.out.b
          have fh := HI4.out.b.h.frozen 0
          have fv := HI4.out.b.v.frozen 0
          have ft := HI4.out.b.t.frozen 0
          have z4 := HI4.out.b.t.lt
          clear hhl hll HP
          (try dsimp only)
          (repeat (first | go_values | gi_guarded | gi_step | gi_upon))
          go_roundw
          case rel => exact ⟨k + 1, _, _, _, _, by omega, HI5, HP5⟩
          case measure => rw [itP_of HI5.out.i, HMEA.out]; omega
        · have ha : ∀ w, (Op.stringOp .add (⟨t.toArray⟩ : ByteArray) ⟨#[b]⟩).run Tryd.prog w = .ok (.string ⟨(t ++ [b]).toArray⟩) w := fun w => run_string_add_lists (P := Tryd.prog) w t [b] (by omega) (by simp)
          have HP5 := hide (HP.out.b2 hlt HB.out HVW2.out)
          have HI5 := hide (HI4.out.setT HJ.out HIT.out (Nat.lt_succ_self it) (t ++ [b]))
          obtain ⟨n1, n2⟩ := ne_one d
          obtain ⟨cy, ch, cv, ct⟩ := SyB.cells HI4.out.b
          have fh := HI4.out.b.h.frozen 0
          have fv := HI4.out.b.v.frozen 0
          have ft := HI4.out.b.t.frozen 0
          have z4 := HI4.out.b.t.lt
          clear hhl hll HP
          (try dsimp only)
          (repeat (first | go_values | gi_guarded | gi_step | gi_upon))
          go_roundw
          case rel => exact ⟨k + 1, _, _, _, _, by omega, HI5, HP5⟩
          case measure => rw [itP_of HI5.out.i, HMEA.out]; omega
      · rw [hvw] at HVC
        have HVW2 := hide hvw
        clear hvw
        gi_wp2_with fail
        (with_reducible refine (hwd (HVC.out _)).mono ?_)
        rintro e w4 ⟨rfl, hb4⟩
        have HI4 := hide (HI1.out.ext HJ.out (((Below.refl wx.heap.size wx).alloc (Nat.le_refl _) _).trans (hb4.mono (by simp))))
        clear hb4 HI1 hnx
        have hhl := HP.out.s
        have hll := HLL.out
        have hw := HP.out.v1
        rcases hw with rfl | ⟨d, rfl, hd⟩
        · have HP5 := hide (HP.out.a1 hlt HB.out HVW2.out hb128)
          have HI5 := hide (HI4.out.setV HJ.out HIT.out (Nat.lt_succ_self it) [b])
          obtain ⟨cy, ch, cv, ct⟩ := SyB.cells HI4.out.b
          have fh := HI4.out.b.h.frozen 0
          have fv := HI4.out.b.v.frozen 0
          have ft := HI4.out.b.t.frozen 0
          have z4 := HI4.out.b.t.lt
          clear hhl hll HP
          (try dsimp only)
          (repeat (first | go_values | gi_guarded | gi_step | gi_upon))
          go_roundw
          case rel => exact ⟨k + 1, _, _, _, _, by omega, HI5, HP5⟩
          case measure => rw [itP_of HI5.out.i, HMEA.out]; omega
        · obtain ⟨hp5, hpre⟩ := HP.out.a2 hlt HB.out HVW2.out hb128
          have HP5 := hide hp5
          have HTE : Hid (CallsIn F (n - 1) Tryd.prog 99 #[.bool false, .pointer (some ⟨N + 3, 0, none⟩), .pointer (some ⟨N + 1, 0, none⟩), .pointer (some ⟨N + 2, 0, none⟩), .pointer (some ⟨N, 0, none⟩)] w4 fun e W' =>
              (e = .returned (.bool true) ∧ SyW W' N (it + 1) it l J ls (k + 1) (pre ++ [tlS false h [d] t]) (tlN false h [d] t) [] []) ∨ (e = .returned (.bool false) ∧ Jx (pre ++ [tlS false h [d] t]) W')) := hide (by
            have hm4 := HI4.out.m
            have hit4 := HIT.out
            refine tell_in F (n - 1) hF hro hroom hwd (by omega) l N (N + 4) false h t d w4 _ (by rintro e w (⟨rfl, -⟩ | ⟨rfl, -⟩) <;> exact ⟨_, rfl⟩) HI4.out.b hd (by omega) (Nat.le_refl _) (by omega) (fun W1 ho hs => ?_)
            have hi1 := (ho.block it (iter_lt HI4.out.i) (by omega)).trans HI4.out.i
            have hm1 : it + 1 ≤ W1.heap.size := Nat.le_trans hm4 ho.size
            have hj1 := HJ.out _ _ _ _ HI4.out.j (ho.more (Nat.le_refl _) (by omega))
            refine YieldAt.mono (YieldAt.any hroom (HY.out (it + 1) pre _ W1 hpre hm1 hj1)) ?_
            rintro e W' (⟨rfl, h1, h2⟩ | ⟨rfl, h1⟩)
            · exact .inl ⟨rfl, hs.keep h2 (by omega), h1, iter_out h2 hi1 (by omega) (by omega), Nat.le_trans hm1 h2.size⟩
            · exact .inr ⟨rfl, h1⟩)
          obtain ⟨n1, n2⟩ := ne_one d
          obtain ⟨cy, ch, cv, ct⟩ := SyB.cells HI4.out.b
          have fh := HI4.out.b.h.frozen 0
          have fv := HI4.out.b.v.frozen 0
          have ft := HI4.out.b.t.frozen 0
          have z4 := HI4.out.b.t.lt
          clear hhl hll HP hp5
          have HPRE := hide hpre
          clear hpre
          (try dsimp only)
          (repeat (first | go_values | gi_guarded | gi_step | gi_upon))
          refine HTE.out.mono ?_
          rintro e w5 (⟨rfl, hw5⟩ | ⟨rfl, hx5⟩)
          · have HI5 := hide hw5
            have HI6 := hide (hw5.setV HJ.out HIT.out (Nat.lt_succ_self it) [b])
            clear hw5 cy ch cv ct fh fv ft z4 HI4 HTE
            obtain ⟨cy, ch, cv, ct⟩ := SyB.cells HI5.out.b
            have fh := HI5.out.b.h.frozen 0
            have fv := HI5.out.b.v.frozen 0
            have ft := HI5.out.b.t.frozen 0
            have z4 := HI5.out.b.t.lt
            (try dsimp only)
            (repeat (first | go_values | gi_guarded | gi_step | gi_upon))
            go_roundw
            case rel => exact ⟨k + 1, _, _, _, _, by omega, HI6, HP5⟩
            case measure => rw [itP_of HI6.out.i, HMEA.out]; omega
          · have HX := hide hx5
            clear hx5 cy ch cv ct fh fv ft z4 HI4 HTE
            (try dsimp only)
            (repeat (first | go_values | gi_guarded | gi_step | gi_upon))
            refine bodyPost_ret (results_none rfl _ _ _) rfl ?_
            exact ⟨⟨_, rfl⟩, .inr ⟨_, HPRE.out, HX.out⟩⟩
    · obtain rfl : k = ls.length := by omega
      have hls : (⟨ls.toArray⟩ : ByteArray).size = ls.length := sizeA ls
      have hnx := fun ty => Lib.run_next_end_at (P := Tryd.prog) wr it ⟨ls.toArray⟩ ls.length ty HI.out.i (by rw [hls]; omega)
      obtain ⟨d, rfl, hd, hfin⟩ := HP.out.fin
      have hhl := HP.out.s
      have hll := HLL.out
      have HFIN := hide hfin
      have HTE : Hid (CallsIn F (n - 1) Tryd.prog 99 #[.bool true, .pointer (some ⟨N + 3, 0, none⟩), .pointer (some ⟨N + 1, 0, none⟩), .pointer (some ⟨N + 2, 0, none⟩), .pointer (some ⟨N, 0, none⟩)] wr fun e W' =>
          (∃ b, e = .returned (.bool b)) ∧ ((∃ M, J M (syl ls [] [] []) W') ∨ ∃ pre, pre <+: syl ls [] [] [] ∧ Jx pre W')) := hide (by
        have hm4 := HI.out.m
        have hit4 := HIT.out
        refine tell_in F (n - 1) hF hro hroom hwd (by omega) l N (N + 4) true h t d wr _ (by rintro e w ⟨⟨b, rfl⟩, -⟩; exact ⟨b, rfl⟩) HI.out.b hd (by omega) (Nat.le_refl _) (by omega) (fun W1 ho hs => ?_)
        have hm1 : it + 1 ≤ W1.heap.size := Nat.le_trans hm4 ho.size
        have hj1 := HJ.out _ _ _ _ HI.out.j (ho.more (Nat.le_refl _) (by omega))
        refine YieldAt.mono (YieldAt.any hroom (HY.out (it + 1) pre _ W1 ⟨[], by rw [hfin, List.append_nil]⟩ hm1 hj1)) ?_
        rintro e W' (⟨rfl, h1, h2⟩ | ⟨rfl, h1⟩)
        · exact ⟨⟨_, rfl⟩, .inl ⟨_, by rw [← hfin]; exact h1⟩⟩
        · exact ⟨⟨_, rfl⟩, .inr ⟨_, ⟨[], by rw [hfin, List.append_nil]⟩, h1⟩⟩)
      clear hhl hll HP hfin HFIN
      (try dsimp only)
      (repeat (first | go_values | gi_guarded | gi_step | gi_upon))
      refine HTE.out.mono ?_
      rintro e w5 ⟨⟨b, rfl⟩, hr⟩
      have HR := hide hr
      clear hr
      (try dsimp only)
      (repeat (first | go_values | gi_guarded | gi_step | gi_upon))
      go_end0
      exact ⟨⟨_, rfl⟩, HR.out⟩
end Go.Proofs.YtlkkkgpcjdemdaaDoor
/- Song: the iterator over what may stand next, walked. -/
namespace Go.Proofs.YtlkkkgpcjdemdaaDoor
open Go Go.RowKit Go.Shelf
attribute [local go_sem] Oper.semAt_some
set_option maxHeartbeats 8000000
set_option maxRecDepth 100000
theorem wpIn_on {F : Fence} {n : Nat} {P : Program} {c : Code} {Q : Exit → Act → World → Prop} {a : Act} {w : World} (h : c.wpIn F n P (OnlyNormal fun a' w' => Q .normal a' w') a w) : c.wpIn F n P Q a w :=
  wpIn_cut (fun _ a' w' => Q .normal a' w') h (fun _ _ h => h)
/-- what may stand next: the syllable's weight, and what is left behind it; k of the two looked at -/
def nxW (c : UInt8) (left : Int) : Nat → List (UInt8 × Int)
  | 0 => []
  | 1 => if okW c 103 left 2 then [(103, lfW left 2)] else []
  | _ => (if okW c 103 left 2 then [(103, lfW left 2)] else []) ++ (if okW c 108 left 1 then [(108, lfW left 1)] else [])
def nxE (i : Nat) (x : UInt8 × Int) : Array Value := #[.int .u8 (x.1.toNat : Int), .agg #[.int .i64 ((i : Int) + 1), .int .i64 x.2]]
/-- what the iterator reads -/
structure NxZ (pa pf fb i : Nat) (left : Int) (s : ByteArray) (W : World) : Prop where
  i : W.cell? ⟨pa, 0, none⟩ = some (.int .i64 (i : Nat))
  l : W.cell? ⟨pa, 1, none⟩ = some (.int .i64 left)
  f : W.cell? ⟨pf, 0, none⟩ = some (.pointer (some ⟨fb, 0, none⟩))
  s : W.cell? ⟨fb, 0, none⟩ = some (.string s)
structure NxW (W : World) (N M : Nat) (J : Nat → List (UInt8 × Int) → World → Prop) (pre : List (UInt8 × Int)) : Prop where
  j : J M pre W
  b : W.heap[N]? = some (.cells #[.int .u8 103, .int .u8 108] 5 (2, 3))
  m : M ≤ W.heap.size
  n : N < M
theorem NxW.ext {W W' : World} {N M : Nat} {J : Nat → List (UInt8 × Int) → World → Prop} {pre : List (UInt8 × Int)} (h : NxW W N M J pre) (hJ : ∀ M s W1 W2, J M s W1 → OutK N M W1 W2 → J M s W2) (hb : Below W.heap.size W W') : NxW W' N M J pre :=
  ⟨hJ _ _ _ _ h.j (OutK.of_below hb), (hb.block N (by have := h.m; have := h.n; omega)).trans h.b, Nat.le_trans h.m hb.size, h.n⟩
theorem u8_eq {c : UInt8} {w : UInt8} (h : (c.toNat : Int) = (w.toNat : Int)) : c = w := UInt8.toNat_inj.1 (by omega)
theorem okW_yes {c w : UInt8} {left d : Int} (h : c = 120 ∨ c = w) (h2 : left < 0 ∨ d ≤ left) : okW c w left d = true := by
  unfold okW; rcases h with rfl | rfl <;> rcases h2 with h2 | h2 <;> simp [h2]
theorem okW_no1 {c w : UInt8} {left d : Int} (h1 : c ≠ 120) (h2 : c ≠ w) : okW c w left d = false := by
  unfold okW; simp [h1, h2]
theorem okW_no2 {c w : UInt8} {left d : Int} (h1 : 0 ≤ left) (h2 : left < d) : okW c w left d = false := by
  unfold okW; simp; intro _; omega
theorem nx_no0 {c : UInt8} {left : Int} (h : okW c 103 left 2 = false) : nxW c left (0 + 1) = nxW c left 0 := by simp [nxW, h]
theorem nx_no1 {c : UInt8} {left : Int} (h : okW c 108 left 1 = false) : nxW c left (1 + 1) = nxW c left 1 := by simp [nxW, h]
theorem nx_yes0 {c : UInt8} {left : Int} (h : okW c 103 left 2 = true) : nxW c left (0 + 1) = nxW c left 0 ++ [(103, lfW left 2)] := by simp [nxW, h]
theorem nx_yes1 {c : UInt8} {left : Int} (h : okW c 108 left 1 = true) : nxW c left (1 + 1) = nxW c left 1 ++ [(108, lfW left 1)] := by simp [nxW, h]
theorem nx_pre0 {c : UInt8} {left : Int} (h : okW c 103 left 2 = true) : nxW c left 0 ++ [(103, lfW left 2)] <+: nxW c left 2 := by simp [nxW, h]
theorem nx_pre1 {c : UInt8} {left : Int} (h : okW c 108 left 1 = true) : nxW c left 1 ++ [(108, lfW left 1)] <+: nxW c left 2 := by simp [nxW, h]
theorem nx_in (F : Fence) (n : Nat) (hF : ∀ f, F.fn f) (hro : F.round = none) (hroom : ∀ j, F.room j) (hn : 2 ≤ n)
    (pa pf fb i : Nat) (left : Int) (s : ByteArray) (c : UInt8) (hi : i < s.size) (hs : s.size ≤ 60) (hc : s[i]'hi = c) (hl : LfOk left)
    (l : Nat) (J : Nat → List (UInt8 × Int) → World → Prop) (Jx : List (UInt8 × Int) → World → Prop) (W : World)
    (hZ : ∀ M s1 W1, J M s1 W1 → NxZ pa pf fb i left s W1)
    (h0 : ∀ W1, Below W.heap.size W W1 → J W1.heap.size [] W1)
    (hJ : ∀ M s W1 W2, J M s W1 → OutK W.heap.size M W1 W2 → J M s W2)
    (hY : ∀ M pre x W1, pre ++ [x] <+: nxW c left 2 → M ≤ W1.heap.size → J M pre W1 → YieldAt F (n - 1) Tryd.prog l (nxE i x) W1 fun e W' =>
      (e = .returned (.bool true) ∧ J M (pre ++ [x]) W' ∧ KeepB W.heap.size M W1 W') ∨ (e = .returned (.bool false) ∧ Jx (pre ++ [x]) W')) :
    CallsIn F n Tryd.prog 106 #[.func (.yield l) #[] #[], .pointer (some ⟨pa, 0, none⟩), .pointer (some ⟨pf, 0, none⟩)] W fun e W' => (∃ v, e = .returned v) ∧ ((∃ M, J M (nxW c left 2) W') ∨ ∃ pre, pre <+: nxW c left 2 ∧ Jx pre W') := by
  have hn1 : 1 ≤ n := by omega
  have HZ := hide hZ
  have H0 := hide h0
  have HJ := hide hJ
  have HY := hide hY
  have HL := hide hl
  have HC := hide hc
  clear hZ h0 hJ hY hl hc
  obtain ⟨N, hN⟩ : ∃ N, W.heap.size = N := ⟨_, rfl⟩
  have HN := hide hN
  rw [hN] at HJ HY
  refine callsIn_of_wp Tryd.func106 rfl (hF _) ?_ hro
  simp only [Tryd.ntmps106, List.size_toArray, List.length_cons, List.length_nil, Nat.reduceAdd, Nat.reduceSub, Array.replicate_succ, Array.replicate_zero, List.push_toArray, List.append_toArray, List.nil_append, List.cons_append]
  have HI0 : Hid (NxW (W.alloc (.cells #[.int .u8 103, .int .u8 108] 5 (2, 3))) N (N + 1) J []) := hide ⟨by
    have := H0.out (W.alloc (.cells #[.int .u8 103, .int .u8 108] 5 (2, 3))) ((Below.refl _ _).alloc (Nat.le_refl _) _)
    rwa [World.size_alloc, hN] at this, by rw [← hN]; exact World.alloc_heap_new W _, by rw [World.size_alloc, hN]; exact Nat.le_refl _, by omega⟩
  have kc := Lib.run_convert_bytes_const (P := Tryd.prog) W 113 5 #[.int .u8 103, .int .u8 108] 2 2 Tryd.underlying113 Tryd.underlying5
  rw [hN] at kc
  (try dsimp only)
  (repeat (first | go_values | gi_guarded | gi_step | gi_upon))
  clear kc hN H0 HN
  generalize W.alloc (.cells #[.int .u8 103, .int .u8 108] 5 (2, 3)) = wq at HI0 ⊢
  gi_loopw [11] (fun iv wr => ∃ (k : Nat), k ≤ 2 ∧ iv = .int .i64 (k : Nat) ∧ Hid (NxW wr N (N + 1) J (nxW c left k))) (fun iv _ => 2 - (intOf iv).toNat)
  case atStart => exact ⟨0, Nat.zero_le _, rfl, HI0⟩
  case round =>
    obtain ⟨k, hk, rfl, HI⟩ := hrel
    clear HI0
    by_cases hlt : k < 2
    · have h01 : k = 0 ∨ k = 1 := by omega
      rcases h01 with rfl | rfl
      · have cb : wr.cell? ⟨N, 0, none⟩ = some (.int .u8 103) := by unfold World.cell?; rw [HI.out.b]; rfl
        obtain ⟨ci, cl, cf, cs⟩ := HZ.out _ _ _ HI.out.j
        have z1 := cell_lt ci
        have z2 := cell_lt cf
        have z3 := cell_lt cs
        dsimp only at z1 z2 z3
        have hl := HL.out
        unfold LfOk at hl
        have hw1 : IntKind.i64.wrap ((i : Int) + 1) = (i : Int) + 1 := IntWalk.i64_in _ (by omega)
        have hw2 : IntKind.i64.wrap (left - 2) = left - 2 := IntWalk.i64_in _ (by omega)
        by_cases hlf : 0 ≤ left
        · (try dsimp only)
          (repeat (first | go_values | gi_guarded | gi_step | gi_upon))
          refine wpIn_on ?_
          refine wpIn_region_J (fun W : World => W.cell? ⟨pa, 0, none⟩ = some (.int .i64 (i : Nat)) ∧ W.cell? ⟨pf, 0, none⟩ = some (.pointer (some ⟨fb, 0, none⟩)) ∧ W.cell? ⟨fb, 0, none⟩ = some (.string s)) (by kernel_rfl) ?_
          have kp := Blk.new wr 127 #[.int .i64 ((i : Int) + 1), .int .i64 (left - 2)]
          have hb1 : Below wr.heap.size wr (wr.alloc (.cells #[.int .i64 ((i : Int) + 1), .int .i64 (left - 2)] 127)) := (Below.refl _ _).alloc (Nat.le_refl _) _
          have hb2 := (Below.refl (wr.alloc (.cells #[.int .i64 ((i : Int) + 1), .int .i64 (left - 2)] 127)).heap.size (wr.alloc (.cells #[.int .i64 ((i : Int) + 1), .int .i64 (left - 2)] 127))).drew
          have HI1 := hide ((HI.out.ext HJ.out hb1).ext HJ.out hb2)
          have KP := hide (kp.ext hb2)
          clear kp hb1 hb2 ci cl cf cs cb HI
          obtain ⟨g, hg⟩ : ∃ g, wr.heap.size = g := ⟨_, rfl⟩
          rw [hg] at KP z1 z2 z3 ⊢
          clear hg
          generalize (wr.alloc (.cells #[.int .i64 ((i : Int) + 1), .int .i64 (left - 2)] 127)).drew = w1 at HI1 KP ⊢
          obtain ⟨ci, cl, cf, cs⟩ := HZ.out _ _ _ HI1.out.j
          refine tk_start [0, 1, 2, 3, 4, 5, 6, 7, 8] ?_
          iterate 9
            refine tk_one (v := ?_) (by first | exact hF | exact wideFn) ⟨ci, cf, cs⟩ rfl (by kernel_rfl) (by kernel_rfl) (by kernel_rfl) (by kernel_rfl) rfl ?_ (by first | exact fun _ _ _ h => h | exact fun _ _ _ h => hQ2 _ _ _ _ _ h) ?_
            rotate_left
            · intro W hSW
              simp only [List.getElem_toArray, List.getElem_cons_zero, List.getElem_cons_succ]
              (try dsimp only at hSW)
              go_simp
              with_reducible rfl
            (try simp only [List.getElem_toArray, List.getElem_cons_zero, List.getElem_cons_succ, Act.put, List.setIfInBounds_toArray, List.set_cons_zero, List.set_cons_succ])
          refine tk_end ?_
          refine wpAnyJ_done (by kernel_rfl) ?_
          dsimp only [OnlyNormal]
          rw [HC.out]
          have hnf := KP.out.frozen 0
          obtain ⟨e1, e2, e3⟩ := bx2 KP.out
          by_cases h120 : (c.toNat : Int) = 120
          · by_cases hd : left < 2
            · have hd1 : (left - 2 : Int) < 0 := by omega
              have hok : okW c 103 left 2 = false := okW_no2 hlf hd
              have HN1 : Hid (nxW c left (0 + 1) = nxW c left 0) := hide (nx_no0 hok)
              clear hok
              (try dsimp only)
              (repeat (first | go_values | gi_guarded | gi_step | gi_upon))
              go_roundw
              case rel => exact ⟨0 + 1, by omega, rfl, by rw [HN1.out]; exact HI1⟩
              case measure => simp [intOf]
            · have hd1 : ¬ (left - 2 : Int) < 0 := by omega
              have hok : okW c 103 left 2 = true := okW_yes (.inl (u8_eq (w := 120) h120)) (.inr (by omega))
              have HN1 := hide (nx_yes0 hok)
              have HPRE := hide (nx_pre0 hok)
              clear hok
              have hlw : lfW left 2 = left - 2 := if_pos hlf
              rw [hlw] at HN1 HPRE
              clear hlw
              have HY1 := hide (HY.out _ _ _ _ HPRE.out HI1.out.m HI1.out.j)
              have hyy : YieldAt F (n - 1) Tryd.prog l #[.int .u8 103, .agg #[.int .i64 ((i : Int) + 1), .int .i64 (left - 2)]] w1 _ := HY1.out
              obtain ⟨fn, tmps, assign, body, hy, hR⟩ := hyy
              have HR := hide hR
              clear hR
              (try dsimp only)
              (repeat (first | go_values | gi_guarded | gi_step | gi_upon))
              refine HR.out.mono ?_
              rintro e W' (⟨rfl, h1, h2⟩ | ⟨rfl, h1⟩)
              · have HI2 : Hid (NxW W' N (N + 1) J (nxW c left (0 + 1))) := hide ⟨by rw [HN1.out]; exact h1, (h2.block N (Nat.le_refl _) (by omega)).trans HI1.out.b, Nat.le_trans HI1.out.m h2.size, by omega⟩
                clear h1 h2 HY1 HR hy
                (try dsimp only)
                (repeat (first | go_values | gi_guarded | gi_step | gi_upon))
                go_roundw
                case rel => exact ⟨0 + 1, by omega, rfl, HI2⟩
                case measure => simp [intOf]
              · have HX := hide h1
                clear h1 HY1 HR hy
                (try dsimp only)
                (repeat (first | go_values | gi_guarded | gi_step | gi_upon))
                refine bodyPost_ret (results_none rfl _ _ _) rfl ?_
                exact ⟨⟨_, rfl⟩, .inr ⟨_, HPRE.out, HX.out⟩⟩
          · by_cases hcw : (c.toNat : Int) = 103
            · by_cases hd : left < 2
              · have hd1 : (left - 2 : Int) < 0 := by omega
                have hok : okW c 103 left 2 = false := okW_no2 hlf hd
                have HN1 : Hid (nxW c left (0 + 1) = nxW c left 0) := hide (nx_no0 hok)
                clear hok
                (try dsimp only)
                (repeat (first | go_values | gi_guarded | gi_step | gi_upon))
                go_roundw
                case rel => exact ⟨0 + 1, by omega, rfl, by rw [HN1.out]; exact HI1⟩
                case measure => simp [intOf]
              · have hd1 : ¬ (left - 2 : Int) < 0 := by omega
                have hok : okW c 103 left 2 = true := okW_yes (.inr (u8_eq (w := 103) hcw)) (.inr (by omega))
                have HN1 := hide (nx_yes0 hok)
                have HPRE := hide (nx_pre0 hok)
                clear hok
                have hlw : lfW left 2 = left - 2 := if_pos hlf
                rw [hlw] at HN1 HPRE
                clear hlw
                have HY1 := hide (HY.out _ _ _ _ HPRE.out HI1.out.m HI1.out.j)
                have hyy : YieldAt F (n - 1) Tryd.prog l #[.int .u8 103, .agg #[.int .i64 ((i : Int) + 1), .int .i64 (left - 2)]] w1 _ := HY1.out
                obtain ⟨fn, tmps, assign, body, hy, hR⟩ := hyy
                have HR := hide hR
                clear hR
                (try dsimp only)
                (repeat (first | go_values | gi_guarded | gi_step | gi_upon))
                refine HR.out.mono ?_
                rintro e W' (⟨rfl, h1, h2⟩ | ⟨rfl, h1⟩)
                · have HI2 : Hid (NxW W' N (N + 1) J (nxW c left (0 + 1))) := hide ⟨by rw [HN1.out]; exact h1, (h2.block N (Nat.le_refl _) (by omega)).trans HI1.out.b, Nat.le_trans HI1.out.m h2.size, by omega⟩
                  clear h1 h2 HY1 HR hy
                  (try dsimp only)
                  (repeat (first | go_values | gi_guarded | gi_step | gi_upon))
                  go_roundw
                  case rel => exact ⟨0 + 1, by omega, rfl, HI2⟩
                  case measure => simp [intOf]
                · have HX := hide h1
                  clear h1 HY1 HR hy
                  (try dsimp only)
                  (repeat (first | go_values | gi_guarded | gi_step | gi_upon))
                  refine bodyPost_ret (results_none rfl _ _ _) rfl ?_
                  exact ⟨⟨_, rfl⟩, .inr ⟨_, HPRE.out, HX.out⟩⟩
            · have hok : okW c 103 left 2 = false := okW_no1 (fun e => by subst e; exact h120 rfl) (fun e => by subst e; exact hcw rfl)
              have HN1 : Hid (nxW c left (0 + 1) = nxW c left 0) := hide (nx_no0 hok)
              clear hok
              (try dsimp only)
              (repeat (first | go_values | gi_guarded | gi_step | gi_upon))
              go_roundw
              case rel => exact ⟨0 + 1, by omega, rfl, by rw [HN1.out]; exact HI1⟩
              case measure => simp [intOf]
        · (try dsimp only)
          (repeat (first | go_values | gi_guarded | gi_step | gi_upon))
          refine wpIn_on ?_
          refine wpIn_region_J (fun W : World => W.cell? ⟨pa, 0, none⟩ = some (.int .i64 (i : Nat)) ∧ W.cell? ⟨pf, 0, none⟩ = some (.pointer (some ⟨fb, 0, none⟩)) ∧ W.cell? ⟨fb, 0, none⟩ = some (.string s)) (by kernel_rfl) ?_
          have kp := Blk.new wr 127 #[.int .i64 ((i : Int) + 1), .int .i64 (left)]
          have hb1 : Below wr.heap.size wr (wr.alloc (.cells #[.int .i64 ((i : Int) + 1), .int .i64 (left)] 127)) := (Below.refl _ _).alloc (Nat.le_refl _) _
          have hb2 := (Below.refl (wr.alloc (.cells #[.int .i64 ((i : Int) + 1), .int .i64 (left)] 127)).heap.size (wr.alloc (.cells #[.int .i64 ((i : Int) + 1), .int .i64 (left)] 127))).drew
          have HI1 := hide ((HI.out.ext HJ.out hb1).ext HJ.out hb2)
          have KP := hide (kp.ext hb2)
          clear kp hb1 hb2 ci cl cf cs cb HI
          obtain ⟨g, hg⟩ : ∃ g, wr.heap.size = g := ⟨_, rfl⟩
          rw [hg] at KP z1 z2 z3 ⊢
          clear hg
          generalize (wr.alloc (.cells #[.int .i64 ((i : Int) + 1), .int .i64 (left)] 127)).drew = w1 at HI1 KP ⊢
          obtain ⟨ci, cl, cf, cs⟩ := HZ.out _ _ _ HI1.out.j
          refine tk_start [0, 1, 2, 3, 4, 5, 6, 7, 8] ?_
          iterate 9
            refine tk_one (v := ?_) (by first | exact hF | exact wideFn) ⟨ci, cf, cs⟩ rfl (by kernel_rfl) (by kernel_rfl) (by kernel_rfl) (by kernel_rfl) rfl ?_ (by first | exact fun _ _ _ h => h | exact fun _ _ _ h => hQ2 _ _ _ _ _ h) ?_
            rotate_left
            · intro W hSW
              simp only [List.getElem_toArray, List.getElem_cons_zero, List.getElem_cons_succ]
              (try dsimp only at hSW)
              go_simp
              with_reducible rfl
            (try simp only [List.getElem_toArray, List.getElem_cons_zero, List.getElem_cons_succ, Act.put, List.setIfInBounds_toArray, List.set_cons_zero, List.set_cons_succ])
          refine tk_end ?_
          refine wpAnyJ_done (by kernel_rfl) ?_
          dsimp only [OnlyNormal]
          rw [HC.out]
          have hnf := KP.out.frozen 0
          obtain ⟨e1, e2, e3⟩ := bx2 KP.out
          by_cases h120 : (c.toNat : Int) = 120
          · have hok : okW c 103 left 2 = true := okW_yes (.inl (u8_eq (w := 120) h120)) (.inl (by omega))
            have HN1 := hide (nx_yes0 hok)
            have HPRE := hide (nx_pre0 hok)
            clear hok
            have hlw : lfW left 2 = left := if_neg hlf
            rw [hlw] at HN1 HPRE
            clear hlw
            have HY1 := hide (HY.out _ _ _ _ HPRE.out HI1.out.m HI1.out.j)
            have hyy : YieldAt F (n - 1) Tryd.prog l #[.int .u8 103, .agg #[.int .i64 ((i : Int) + 1), .int .i64 (left)]] w1 _ := HY1.out
            obtain ⟨fn, tmps, assign, body, hy, hR⟩ := hyy
            have HR := hide hR
            clear hR
            (try dsimp only)
            (repeat (first | go_values | gi_guarded | gi_step | gi_upon))
            refine HR.out.mono ?_
            rintro e W' (⟨rfl, h1, h2⟩ | ⟨rfl, h1⟩)
            · have HI2 : Hid (NxW W' N (N + 1) J (nxW c left (0 + 1))) := hide ⟨by rw [HN1.out]; exact h1, (h2.block N (Nat.le_refl _) (by omega)).trans HI1.out.b, Nat.le_trans HI1.out.m h2.size, by omega⟩
              clear h1 h2 HY1 HR hy
              (try dsimp only)
              (repeat (first | go_values | gi_guarded | gi_step | gi_upon))
              go_roundw
              case rel => exact ⟨0 + 1, by omega, rfl, HI2⟩
              case measure => simp [intOf]
            · have HX := hide h1
              clear h1 HY1 HR hy
              (try dsimp only)
              (repeat (first | go_values | gi_guarded | gi_step | gi_upon))
              refine bodyPost_ret (results_none rfl _ _ _) rfl ?_
              exact ⟨⟨_, rfl⟩, .inr ⟨_, HPRE.out, HX.out⟩⟩
          · by_cases hcw : (c.toNat : Int) = 103
            · have hok : okW c 103 left 2 = true := okW_yes (.inr (u8_eq (w := 103) hcw)) (.inl (by omega))
              have HN1 := hide (nx_yes0 hok)
              have HPRE := hide (nx_pre0 hok)
              clear hok
              have hlw : lfW left 2 = left := if_neg hlf
              rw [hlw] at HN1 HPRE
              clear hlw
              have HY1 := hide (HY.out _ _ _ _ HPRE.out HI1.out.m HI1.out.j)
              have hyy : YieldAt F (n - 1) Tryd.prog l #[.int .u8 103, .agg #[.int .i64 ((i : Int) + 1), .int .i64 (left)]] w1 _ := HY1.out
              obtain ⟨fn, tmps, assign, body, hy, hR⟩ := hyy
              have HR := hide hR
              clear hR
              (try dsimp only)
              (repeat (first | go_values | gi_guarded | gi_step | gi_upon))
              refine HR.out.mono ?_
              rintro e W' (⟨rfl, h1, h2⟩ | ⟨rfl, h1⟩)
              · have HI2 : Hid (NxW W' N (N + 1) J (nxW c left (0 + 1))) := hide ⟨by rw [HN1.out]; exact h1, (h2.block N (Nat.le_refl _) (by omega)).trans HI1.out.b, Nat.le_trans HI1.out.m h2.size, by omega⟩
                clear h1 h2 HY1 HR hy
                (try dsimp only)
                (repeat (first | go_values | gi_guarded | gi_step | gi_upon))
                go_roundw
                case rel => exact ⟨0 + 1, by omega, rfl, HI2⟩
                case measure => simp [intOf]
              · have HX := hide h1
                clear h1 HY1 HR hy
                (try dsimp only)
                (repeat (first | go_values | gi_guarded | gi_step | gi_upon))
                refine bodyPost_ret (results_none rfl _ _ _) rfl ?_
                exact ⟨⟨_, rfl⟩, .inr ⟨_, HPRE.out, HX.out⟩⟩
            · have hok : okW c 103 left 2 = false := okW_no1 (fun e => by subst e; exact h120 rfl) (fun e => by subst e; exact hcw rfl)
              have HN1 : Hid (nxW c left (0 + 1) = nxW c left 0) := hide (nx_no0 hok)
              clear hok
              (try dsimp only)
              (repeat (first | go_values | gi_guarded | gi_step | gi_upon))
              go_roundw
              case rel => exact ⟨0 + 1, by omega, rfl, by rw [HN1.out]; exact HI1⟩
              case measure => simp [intOf]
      · have cb : wr.cell? ⟨N, 1, none⟩ = some (.int .u8 108) := by unfold World.cell?; rw [HI.out.b]; rfl
        obtain ⟨ci, cl, cf, cs⟩ := HZ.out _ _ _ HI.out.j
        have z1 := cell_lt ci
        have z2 := cell_lt cf
        have z3 := cell_lt cs
        dsimp only at z1 z2 z3
        have hl := HL.out
        unfold LfOk at hl
        have hw1 : IntKind.i64.wrap ((i : Int) + 1) = (i : Int) + 1 := IntWalk.i64_in _ (by omega)
        have hw2 : IntKind.i64.wrap (left - 1) = left - 1 := IntWalk.i64_in _ (by omega)
        by_cases hlf : 0 ≤ left
        · (try dsimp only)
          (repeat (first | go_values | gi_guarded | gi_step | gi_upon))
          refine wpIn_on ?_
          refine wpIn_region_J (fun W : World => W.cell? ⟨pa, 0, none⟩ = some (.int .i64 (i : Nat)) ∧ W.cell? ⟨pf, 0, none⟩ = some (.pointer (some ⟨fb, 0, none⟩)) ∧ W.cell? ⟨fb, 0, none⟩ = some (.string s)) (by kernel_rfl) ?_
          have kp := Blk.new wr 127 #[.int .i64 ((i : Int) + 1), .int .i64 (left - 1)]
          have hb1 : Below wr.heap.size wr (wr.alloc (.cells #[.int .i64 ((i : Int) + 1), .int .i64 (left - 1)] 127)) := (Below.refl _ _).alloc (Nat.le_refl _) _
          have hb2 := (Below.refl (wr.alloc (.cells #[.int .i64 ((i : Int) + 1), .int .i64 (left - 1)] 127)).heap.size (wr.alloc (.cells #[.int .i64 ((i : Int) + 1), .int .i64 (left - 1)] 127))).drew
          have HI1 := hide ((HI.out.ext HJ.out hb1).ext HJ.out hb2)
          have KP := hide (kp.ext hb2)
          clear kp hb1 hb2 ci cl cf cs cb HI
          obtain ⟨g, hg⟩ : ∃ g, wr.heap.size = g := ⟨_, rfl⟩
          rw [hg] at KP z1 z2 z3 ⊢
          clear hg
          generalize (wr.alloc (.cells #[.int .i64 ((i : Int) + 1), .int .i64 (left - 1)] 127)).drew = w1 at HI1 KP ⊢
          obtain ⟨ci, cl, cf, cs⟩ := HZ.out _ _ _ HI1.out.j
          refine tk_start [0, 1, 2, 3, 4, 5, 6, 7, 8] ?_
          iterate 9
            refine tk_one (v := ?_) (by first | exact hF | exact wideFn) ⟨ci, cf, cs⟩ rfl (by kernel_rfl) (by kernel_rfl) (by kernel_rfl) (by kernel_rfl) rfl ?_ (by first | exact fun _ _ _ h => h | exact fun _ _ _ h => hQ2 _ _ _ _ _ h) ?_
            rotate_left
            · intro W hSW
              simp only [List.getElem_toArray, List.getElem_cons_zero, List.getElem_cons_succ]
              (try dsimp only at hSW)
              go_simp
              with_reducible rfl
            (try simp only [List.getElem_toArray, List.getElem_cons_zero, List.getElem_cons_succ, Act.put, List.setIfInBounds_toArray, List.set_cons_zero, List.set_cons_succ])
          refine tk_end ?_
          refine wpAnyJ_done (by kernel_rfl) ?_
          dsimp only [OnlyNormal]
          rw [HC.out]
          have hnf := KP.out.frozen 0
          obtain ⟨e1, e2, e3⟩ := bx2 KP.out
          by_cases h120 : (c.toNat : Int) = 120
          · by_cases hd : left < 1
            · have hd1 : (left - 1 : Int) < 0 := by omega
              have hok : okW c 108 left 1 = false := okW_no2 hlf hd
              have HN1 : Hid (nxW c left (1 + 1) = nxW c left 1) := hide (nx_no1 hok)
              clear hok
              (try dsimp only)
              (repeat (first | go_values | gi_guarded | gi_step | gi_upon))
              go_roundw
              case rel => exact ⟨1 + 1, by omega, rfl, by rw [HN1.out]; exact HI1⟩
              case measure => simp [intOf]
            · have hd1 : ¬ (left - 1 : Int) < 0 := by omega
              have hok : okW c 108 left 1 = true := okW_yes (.inl (u8_eq (w := 120) h120)) (.inr (by omega))
              have HN1 := hide (nx_yes1 hok)
              have HPRE := hide (nx_pre1 hok)
              clear hok
              have hlw : lfW left 1 = left - 1 := if_pos hlf
              rw [hlw] at HN1 HPRE
              clear hlw
              have HY1 := hide (HY.out _ _ _ _ HPRE.out HI1.out.m HI1.out.j)
              have hyy : YieldAt F (n - 1) Tryd.prog l #[.int .u8 108, .agg #[.int .i64 ((i : Int) + 1), .int .i64 (left - 1)]] w1 _ := HY1.out
              obtain ⟨fn, tmps, assign, body, hy, hR⟩ := hyy
              have HR := hide hR
              clear hR
              (try dsimp only)
              (repeat (first | go_values | gi_guarded | gi_step | gi_upon))
              refine HR.out.mono ?_
              rintro e W' (⟨rfl, h1, h2⟩ | ⟨rfl, h1⟩)
              · have HI2 : Hid (NxW W' N (N + 1) J (nxW c left (1 + 1))) := hide ⟨by rw [HN1.out]; exact h1, (h2.block N (Nat.le_refl _) (by omega)).trans HI1.out.b, Nat.le_trans HI1.out.m h2.size, by omega⟩
                clear h1 h2 HY1 HR hy
                (try dsimp only)
                (repeat (first | go_values | gi_guarded | gi_step | gi_upon))
                go_roundw
                case rel => exact ⟨1 + 1, by omega, rfl, HI2⟩
                case measure => simp [intOf]
              · have HX := hide h1
                clear h1 HY1 HR hy
                (try dsimp only)
                (repeat (first | go_values | gi_guarded | gi_step | gi_upon))
                refine bodyPost_ret (results_none rfl _ _ _) rfl ?_
                exact ⟨⟨_, rfl⟩, .inr ⟨_, HPRE.out, HX.out⟩⟩
          · by_cases hcw : (c.toNat : Int) = 108
            · by_cases hd : left < 1
              · have hd1 : (left - 1 : Int) < 0 := by omega
                have hok : okW c 108 left 1 = false := okW_no2 hlf hd
                have HN1 : Hid (nxW c left (1 + 1) = nxW c left 1) := hide (nx_no1 hok)
                clear hok
                (try dsimp only)
                (repeat (first | go_values | gi_guarded | gi_step | gi_upon))
                go_roundw
                case rel => exact ⟨1 + 1, by omega, rfl, by rw [HN1.out]; exact HI1⟩
                case measure => simp [intOf]
              · have hd1 : ¬ (left - 1 : Int) < 0 := by omega
                have hok : okW c 108 left 1 = true := okW_yes (.inr (u8_eq (w := 108) hcw)) (.inr (by omega))
                have HN1 := hide (nx_yes1 hok)
                have HPRE := hide (nx_pre1 hok)
                clear hok
                have hlw : lfW left 1 = left - 1 := if_pos hlf
                rw [hlw] at HN1 HPRE
                clear hlw
                have HY1 := hide (HY.out _ _ _ _ HPRE.out HI1.out.m HI1.out.j)
                have hyy : YieldAt F (n - 1) Tryd.prog l #[.int .u8 108, .agg #[.int .i64 ((i : Int) + 1), .int .i64 (left - 1)]] w1 _ := HY1.out
                obtain ⟨fn, tmps, assign, body, hy, hR⟩ := hyy
                have HR := hide hR
                clear hR
                (try dsimp only)
                (repeat (first | go_values | gi_guarded | gi_step | gi_upon))
                refine HR.out.mono ?_
                rintro e W' (⟨rfl, h1, h2⟩ | ⟨rfl, h1⟩)
                · have HI2 : Hid (NxW W' N (N + 1) J (nxW c left (1 + 1))) := hide ⟨by rw [HN1.out]; exact h1, (h2.block N (Nat.le_refl _) (by omega)).trans HI1.out.b, Nat.le_trans HI1.out.m h2.size, by omega⟩
                  clear h1 h2 HY1 HR hy
                  (try dsimp only)
                  (repeat (first | go_values | gi_guarded | gi_step | gi_upon))
                  go_roundw
                  case rel => exact ⟨1 + 1, by omega, rfl, HI2⟩
                  case measure => simp [intOf]
                · have HX := hide h1
                  clear h1 HY1 HR hy
                  (try dsimp only)
                  (repeat (first | go_values | gi_guarded | gi_step | gi_upon))
                  refine bodyPost_ret (results_none rfl _ _ _) rfl ?_
                  exact ⟨⟨_, rfl⟩, .inr ⟨_, HPRE.out, HX.out⟩⟩
            · have hok : okW c 108 left 1 = false := okW_no1 (fun e => by subst e; exact h120 rfl) (fun e => by subst e; exact hcw rfl)
              have HN1 : Hid (nxW c left (1 + 1) = nxW c left 1) := hide (nx_no1 hok)
              clear hok
              (try dsimp only)
              (repeat (first | go_values | gi_guarded | gi_step | gi_upon))
              go_roundw
              case rel => exact ⟨1 + 1, by omega, rfl, by rw [HN1.out]; exact HI1⟩
              case measure => simp [intOf]
        · (try dsimp only)
          (repeat (first | go_values | gi_guarded | gi_step | gi_upon))
          refine wpIn_on ?_
          refine wpIn_region_J (fun W : World => W.cell? ⟨pa, 0, none⟩ = some (.int .i64 (i : Nat)) ∧ W.cell? ⟨pf, 0, none⟩ = some (.pointer (some ⟨fb, 0, none⟩)) ∧ W.cell? ⟨fb, 0, none⟩ = some (.string s)) (by kernel_rfl) ?_
          have kp := Blk.new wr 127 #[.int .i64 ((i : Int) + 1), .int .i64 (left)]
          have hb1 : Below wr.heap.size wr (wr.alloc (.cells #[.int .i64 ((i : Int) + 1), .int .i64 (left)] 127)) := (Below.refl _ _).alloc (Nat.le_refl _) _
          have hb2 := (Below.refl (wr.alloc (.cells #[.int .i64 ((i : Int) + 1), .int .i64 (left)] 127)).heap.size (wr.alloc (.cells #[.int .i64 ((i : Int) + 1), .int .i64 (left)] 127))).drew
          have HI1 := hide ((HI.out.ext HJ.out hb1).ext HJ.out hb2)
          have KP := hide (kp.ext hb2)
          clear kp hb1 hb2 ci cl cf cs cb HI
          obtain ⟨g, hg⟩ : ∃ g, wr.heap.size = g := ⟨_, rfl⟩
          rw [hg] at KP z1 z2 z3 ⊢
          clear hg
          generalize (wr.alloc (.cells #[.int .i64 ((i : Int) + 1), .int .i64 (left)] 127)).drew = w1 at HI1 KP ⊢
          obtain ⟨ci, cl, cf, cs⟩ := HZ.out _ _ _ HI1.out.j
          refine tk_start [0, 1, 2, 3, 4, 5, 6, 7, 8] ?_
          iterate 9
            refine tk_one (v := ?_) (by first | exact hF | exact wideFn) ⟨ci, cf, cs⟩ rfl (by kernel_rfl) (by kernel_rfl) (by kernel_rfl) (by kernel_rfl) rfl ?_ (by first | exact fun _ _ _ h => h | exact fun _ _ _ h => hQ2 _ _ _ _ _ h) ?_
            rotate_left
            · intro W hSW
              simp only [List.getElem_toArray, List.getElem_cons_zero, List.getElem_cons_succ]
              (try dsimp only at hSW)
              go_simp
              with_reducible rfl
            (try simp only [List.getElem_toArray, List.getElem_cons_zero, List.getElem_cons_succ, Act.put, List.setIfInBounds_toArray, List.set_cons_zero, List.set_cons_succ])
          refine tk_end ?_
          refine wpAnyJ_done (by kernel_rfl) ?_
          dsimp only [OnlyNormal]
          rw [HC.out]
          have hnf := KP.out.frozen 0
          obtain ⟨e1, e2, e3⟩ := bx2 KP.out
          by_cases h120 : (c.toNat : Int) = 120
          · have hok : okW c 108 left 1 = true := okW_yes (.inl (u8_eq (w := 120) h120)) (.inl (by omega))
            have HN1 := hide (nx_yes1 hok)
            have HPRE := hide (nx_pre1 hok)
            clear hok
            have hlw : lfW left 1 = left := if_neg hlf
            rw [hlw] at HN1 HPRE
            clear hlw
            have HY1 := hide (HY.out _ _ _ _ HPRE.out HI1.out.m HI1.out.j)
            have hyy : YieldAt F (n - 1) Tryd.prog l #[.int .u8 108, .agg #[.int .i64 ((i : Int) + 1), .int .i64 (left)]] w1 _ := HY1.out
            obtain ⟨fn, tmps, assign, body, hy, hR⟩ := hyy
            have HR := hide hR
            clear hR
            (try dsimp only)
            (repeat (first | go_values | gi_guarded | gi_step | gi_upon))
            refine HR.out.mono ?_
            rintro e W' (⟨rfl, h1, h2⟩ | ⟨rfl, h1⟩)
            · have HI2 : Hid (NxW W' N (N + 1) J (nxW c left (1 + 1))) := hide ⟨by rw [HN1.out]; exact h1, (h2.block N (Nat.le_refl _) (by omega)).trans HI1.out.b, Nat.le_trans HI1.out.m h2.size, by omega⟩
              clear h1 h2 HY1 HR hy
              (try dsimp only)
              (repeat (first | go_values | gi_guarded | gi_step | gi_upon))
              go_roundw
              case rel => exact ⟨1 + 1, by omega, rfl, HI2⟩
              case measure => simp [intOf]
            · have HX := hide h1
              clear h1 HY1 HR hy
              (try dsimp only)
              (repeat (first | go_values | gi_guarded | gi_step | gi_upon))
              refine bodyPost_ret (results_none rfl _ _ _) rfl ?_
              exact ⟨⟨_, rfl⟩, .inr ⟨_, HPRE.out, HX.out⟩⟩
          · by_cases hcw : (c.toNat : Int) = 108
            · have hok : okW c 108 left 1 = true := okW_yes (.inr (u8_eq (w := 108) hcw)) (.inl (by omega))
              have HN1 := hide (nx_yes1 hok)
              have HPRE := hide (nx_pre1 hok)
              clear hok
              have hlw : lfW left 1 = left := if_neg hlf
              rw [hlw] at HN1 HPRE
              clear hlw
              have HY1 := hide (HY.out _ _ _ _ HPRE.out HI1.out.m HI1.out.j)
              have hyy : YieldAt F (n - 1) Tryd.prog l #[.int .u8 108, .agg #[.int .i64 ((i : Int) + 1), .int .i64 (left)]] w1 _ := HY1.out
              obtain ⟨fn, tmps, assign, body, hy, hR⟩ := hyy
              have HR := hide hR
              clear hR
              (try dsimp only)
              (repeat (first | go_values | gi_guarded | gi_step | gi_upon))
              refine HR.out.mono ?_
              rintro e W' (⟨rfl, h1, h2⟩ | ⟨rfl, h1⟩)
              · have HI2 : Hid (NxW W' N (N + 1) J (nxW c left (1 + 1))) := hide ⟨by rw [HN1.out]; exact h1, (h2.block N (Nat.le_refl _) (by omega)).trans HI1.out.b, Nat.le_trans HI1.out.m h2.size, by omega⟩
                clear h1 h2 HY1 HR hy
                (try dsimp only)
                (repeat (first | go_values | gi_guarded | gi_step | gi_upon))
                go_roundw
                case rel => exact ⟨1 + 1, by omega, rfl, HI2⟩
                case measure => simp [intOf]
              · have HX := hide h1
                clear h1 HY1 HR hy
                (try dsimp only)
                (repeat (first | go_values | gi_guarded | gi_step | gi_upon))
                refine bodyPost_ret (results_none rfl _ _ _) rfl ?_
                exact ⟨⟨_, rfl⟩, .inr ⟨_, HPRE.out, HX.out⟩⟩
            · have hok : okW c 108 left 1 = false := okW_no1 (fun e => by subst e; exact h120 rfl) (fun e => by subst e; exact hcw rfl)
              have HN1 : Hid (nxW c left (1 + 1) = nxW c left 1) := hide (nx_no1 hok)
              clear hok
              (try dsimp only)
              (repeat (first | go_values | gi_guarded | gi_step | gi_upon))
              go_roundw
              case rel => exact ⟨1 + 1, by omega, rfl, by rw [HN1.out]; exact HI1⟩
              case measure => simp [intOf]
    · obtain rfl : k = 2 := by omega
      (try dsimp only)
      (repeat (first | go_values | gi_guarded | gi_step | gi_upon))
      go_end0
      exact ⟨⟨_, rfl⟩, .inl ⟨N + 1, HI.out.j⟩⟩
end Go.Proofs.YtlkkkgpcjdemdaaDoor
/- Song: a map of places and numbers: in how many ways the rest can be filled, as far as it is known. -/
namespace Go.Proofs.YtlkkkgpcjdemdaaDoor
open Go Go.RowKit Go.Shelf
set_option maxHeartbeats 8000000
set_option maxRecDepth 100000
/-- a place: how much of the pattern lies behind, and what is left -/
def plV (x : Nat × Int) : Value := .agg #[.int .i64 (x.1 : Nat), .int .i64 x.2]
/-- places that pattern p can come to -/
structure PlOk (p : List UInt8) (x : Nat × Int) : Prop where
  n : p.length ≤ 60
  i : x.1 ≤ p.length
  l : LfOk x.2
def plW (p : List UInt8) (x : Nat × Int) : Nat := ctW (p.drop x.1) x.2
theorem plW_bd {p : List UInt8} (h : p.length ≤ 60) (x : Nat × Int) : plW p x ≤ 1152921504606846976 := ctW_bd (by rw [List.length_drop]; omega) _
theorem pl_laid : laidOutB Tryd.prog = true := by kernel_rfl
theorem pl_keyed : Maps.Keyed Tryd.prog 127 := Maps.Keyed.of_law (deep_law_laid pl_laid (m := 2) (by omega) (of_decide_eq_true (by kernel_rfl)) (by kernel_rfl) (by kernel_rfl))
theorem pl_size : Tryd.prog.types.size = (Tryd.prog.types.size - 3) + 3 := by kernel_rfl
theorem pl_keyT : Tryd.prog.keyType 127 = true := by kernel_rfl
theorem pl_formed (a b : Value) : (Value.agg #[a, b]).formed Tryd.prog 127 = true := by kernel_rfl
theorem pl_lits (n : Nat) (i : Nat) (left : Int) (h1 : i ≤ 1000000) (h2 : -1 ≤ left ∧ left ≤ 1000000) :
    Tryd.prog.keyLits (n + 3) 127 [.int .i64 (i : Nat), .int .i64 left] = some [.int .i64 (i : Nat), .int .i64 left] := by
  have w2 : (Lit.int .i64 (i : Nat)).wf = true := by simp [Lit.wf, IntKind.min, IntKind.max, IntKind.signed, IntKind.bits]; omega
  have w3 : (Lit.int .i64 left).wf = true := by simp [Lit.wf, IntKind.min, IntKind.max, IntKind.signed, IntKind.bits]; omega
  have c0 : Tryd.prog.cellsOf 127 = 2 := by kernel_rfl
  have c2 : Tryd.prog.cellsOf 3 = 1 := by kernel_rfl
  simp [Program.keyLits, Tryd.underlying127, Tryd.underlying3, c0, c2, w2, w3]
theorem pl_key {p : List UInt8} {x : Nat × Int} (h : PlOk p x) : ∃ l, keyOf Tryd.prog 127 (plV x) = some l := by
  obtain ⟨i, left⟩ := x
  obtain ⟨h1, h2, h3, h4⟩ := h
  dsimp only at h1 h2 h3 h4
  unfold keyOf plV
  rw [Tryd.underlying127]
  dsimp only
  rw [pl_keyT, pl_formed, pl_size]
  show ∃ l, (if true = true then Option.map _ (Tryd.prog.keyLits (Tryd.prog.types.size - 3 + 1 + 3) 127 [.int .i64 (i : Nat), .int .i64 left]) else none) = some l
  rw [if_pos rfl, pl_lits _ _ _ (by omega) ⟨h3, by omega⟩]
  exact ⟨_, rfl⟩
theorem nodup_le {α : Type} [DecidableEq α] : ∀ (l M : List α), l.Pairwise (· ≠ ·) → (∀ x ∈ l, x ∈ M) → l.length ≤ M.length
  | [], _, _, _ => Nat.zero_le _
  | x :: l, M, h, hs => by
    obtain ⟨h1, h2⟩ := List.pairwise_cons.1 h
    have hx := hs x (by simp)
    have := nodup_le l (M.erase x) h2 fun y hy => (List.mem_erase_of_ne (h1 y hy).symm).2 (hs y (by simp [hy]))
    rw [List.length_erase_of_mem hx] at this
    have := List.length_pos_of_mem hx
    simp only [List.length_cons]
    omega
/-- block b holds the numbers of some places of pattern p -/
def PmAt (w : World) (b : Nat) (p : List UInt8) : Prop :=
  ∃ (es : List (Lit × DataW Unit)) (n : Nat), w.ownsMap Tryd.prog 127 (plainElem Tryd.prog 3) b n (.map es) ∧ ∀ q ∈ es, ∃ x, PlOk p x ∧ keyOf Tryd.prog 127 (plV x) = some q.1 ∧ q.2 = .lit (.int .i64 (plW p x))
theorem PmAt.lt {w : World} {b : Nat} {p : List UInt8} (h : PmAt w b p) : b < w.heap.size := by
  obtain ⟨es, n, h1, -⟩ := h
  exact h1.lt
theorem PmAt.made (w : World) (p : List UInt8) : PmAt (w.alloc (.map #[] 0)) w.heap.size p :=
  ⟨[], 0, World.ownsMap_made w _ _ _, fun q hq => by cases hq⟩
theorem PmAt.kept {w w' : World} {b : Nat} {p : List UInt8} (h : PmAt w b p) {row : Option Nat} (hg : w.grownBy w' row) (hne : some b ≠ row) : PmAt w' b p := by
  obtain ⟨es, n, h1, h2⟩ := h
  exact ⟨es, n, h1.kept hg hne, h2⟩
theorem grown_no' {w w' : World} (hb : Below w.heap.size w w') : w.grownBy w' none := ⟨hb.os, hb.tape, hb.output, hb.size, fun i hi _ => hb.block i hi⟩
theorem PmAt.ext {w w' : World} {b : Nat} {p : List UInt8} (h : PmAt w b p) (hb : Below w.heap.size w w') : PmAt w' b p := h.kept (grown_no' hb) (by simp)
theorem PmAt.map {w : World} {b : Nat} {p : List UInt8} (h : PmAt w b p) : ∃ o : Obj, w.heap[b]? = some o ∧ o.isCells = false := by
  obtain ⟨es, n, ⟨es', clock, h1, -⟩, -⟩ := h
  exact ⟨_, h1, rfl⟩
/-- the map is the same object where the heap has the same object -/
theorem PmAt.same {w w' : World} {b : Nat} {p : List UInt8} (h : PmAt w b p) (hb : w'.heap[b]? = w.heap[b]?) : PmAt w' b p := by
  obtain ⟨es, n, ⟨es', clock, h1, h3⟩, h2⟩ := h
  exact ⟨es, n, ⟨es', clock, hb.trans h1, h3⟩, h2⟩
def plAt (i : Nat) : Nat × Int := (i % 64, ((i / 64 : Nat) : Int) - 1)
theorem plAt_ok {p : List UInt8} {x : Nat × Int} (h : PlOk p x) : ∃ i, i < 64 * 128 ∧ plAt i = x := by
  obtain ⟨i, left⟩ := x
  obtain ⟨h1, h2, h3, h4⟩ := h
  dsimp only at h1 h2 h3 h4
  refine ⟨i + 64 * (left + 1).toNat, by omega, ?_⟩
  unfold plAt
  have e1 : (i + 64 * (left + 1).toNat) % 64 = i := by omega
  have e2 : (i + 64 * (left + 1).toNat) / 64 = (left + 1).toNat := by omega
  rw [e1, e2]
  congr 1; omega
theorem pm_size {w : World} {b : Nat} {p : List UInt8} {es : List (Lit × DataW Unit)} {n : Nat} (h1 : w.ownsMap Tryd.prog 127 (plainElem Tryd.prog 3) b n (.map es))
    (h2 : ∀ q ∈ es, ∃ x, PlOk p x ∧ keyOf Tryd.prog 127 (plV x) = some q.1 ∧ q.2 = .lit (.int .i64 (plW p x))) : es.length ≤ 64 * 128 := by
  classical
  obtain ⟨es', e, hd⟩ := h1.tidy pl_keyed
  injection e with e
  subst e
  have h3 := nodup_le (es.map (·.1)) ((List.range (64 * 128)).map fun i => (keyOf Tryd.prog 127 (plV (plAt i))).getD (.bool true)) (List.pairwise_map.2 hd) (fun x hx => by
    obtain ⟨q, hp, rfl⟩ := List.mem_map.1 hx
    obtain ⟨m, hm, hk, -⟩ := h2 q hp
    obtain ⟨i, hi, rfl⟩ := plAt_ok hm
    exact List.mem_map.2 ⟨i, List.mem_range.2 hi, by rw [hk]; rfl⟩)
  rw [List.length_map, List.length_map, List.length_range] at h3
  exact h3
theorem pm_look {w : World} {b : Nat} {p : List UInt8} (h : PmAt w b p) {x : Nat × Int} (hx : PlOk p x) :
    ∃ (c : Int) (y : Bool), (Instr.lookup 160 (.map (some b)) (plV x) true).run Tryd.prog w = .ok (.tuple #[.int .i64 c, .bool y]) w ∧ (y = true → c = plW p x) := by
  obtain ⟨es, n, h1, h2⟩ := h
  obtain ⟨l, hl⟩ := pl_key hx
  obtain ⟨v, ps, hrun, hv⟩ := h1.look_ok (t := 160) (e := 3) (z := .int .i64 0) (zd := .lit (.int .i64 0)) (zp := []) pl_keyed Tryd.underlying160 (by kernel_rfl) (plainElem_int Tryd.underlying3 (by decide)) hl
  obtain ⟨c, rfl, hc, -⟩ := plainElem_int_inv Tryd.underlying3 hv
  simp only [Prod.mk.injEq] at hc
  refine ⟨c, _, hrun, fun hy => ?_⟩
  obtain ⟨hc, -⟩ := hc
  unfold Maps.has at hy
  obtain ⟨q, hp, hs⟩ := List.any_eq_true.1 hy
  unfold DataW.atKey at hc
  dsimp only at hc
  cases hf : es.find? (fun p => p.1.sameKey l) with
  | none => exact absurd hs (by have := List.find?_eq_none.1 hf q hp; exact this)
  | some q =>
    rw [hf] at hc
    dsimp only at hc
    obtain ⟨m', hm', hk, he⟩ := h2 q (List.mem_of_find?_eq_some hf)
    have e1 : q.1 = l := WideAt.sameKey_eq (List.find?_some (p := fun p : Lit × DataW Unit => p.1.sameKey l) hf)
    rw [e1] at hk
    have e2 := pl_keyed.inj hk hl
    have e3 : m' = x := by
      obtain ⟨a, b⟩ := m'
      obtain ⟨a', b'⟩ := x
      unfold plV at e2
      simp at e2
      obtain ⟨e4, rfl⟩ := e2
      congr 1
      first | exact e4 | omega
    subst e3
    rw [he] at hc
    simpa using hc.symm
theorem pm_put {w : World} {b : Nat} {p : List UInt8} (h : PmAt w b p) {x : Nat × Int} (hx : PlOk p x) :
    ∃ w', (Instr.mapUpdate 160 (.map (some b)) (plV x) (.int .i64 (plW p x))).run Tryd.prog w = .ok () w' ∧ PmAt w' b p ∧ w.grownBy w' (some b) := by
  obtain ⟨es, n, h1, h2⟩ := h
  obtain ⟨l, hl⟩ := pl_key hx
  have hs := pm_size h1 h2
  have h3 : w.ownsMap Tryd.prog 127 (plainElem Tryd.prog 3) b (64 * 128) (.map es) := by
    obtain ⟨es', clock, hb, F, -, hD⟩ := h1
    refine ⟨es', clock, hb, F, ?_, hD⟩
    injection hD with hD
    have e := congrArg List.length hD
    rw [length_sorted] at e
    simp at e
    omega
  have hw : (Lit.int .i64 (plW p x)).wf = true := by
    have := plW_bd hx.n x
    simp [Lit.wf, IntKind.min, IntKind.max, IntKind.signed, IntKind.bits]
    omega
  obtain ⟨w', hrun, hown, hg⟩ := h3.update (t := 160) (e := 3) (val := .int .i64 (plW p x)) pl_keyed Tryd.underlying160 (by decide) hl (plainElem_int Tryd.underlying3 hw)
  refine ⟨w', hrun, ⟨_, _, hown, fun q hp => ?_⟩, hg⟩
  rcases ChangeMaps.mem_insert_iff.1 hp with rfl | hp
  · exact ⟨x, hx, hl, rfl⟩
  · exact h2 q (List.mem_filter.1 hp).1
end Go.Proofs.YtlkkkgpcjdemdaaDoor
/- Song: the iterator over what may stand next as a range's; what a count leaves behind. -/
namespace Go.Proofs.YtlkkkgpcjdemdaaDoor
open Go Go.RowKit Go.Shelf
attribute [local go_sem] Oper.semAt_some
set_option maxHeartbeats 8000000
set_option maxRecDepth 100000
theorem nx_seq (F : Fence) (n : Nat) (hF : ∀ f, F.fn f) (hro : F.round = none) (hroom : ∀ j, F.room j) (hn : 2 ≤ n)
    (pa pf fb i : Nat) (left : Int) (s : ByteArray) (c : UInt8) (hi : i < s.size) (hs : s.size ≤ 60) (hc : s[i]'hi = c) (hl : LfOk left) (w : World) :
    SeqZ F n Tryd.prog 106 #[] #[.pointer (some ⟨pa, 0, none⟩), .pointer (some ⟨pf, 0, none⟩)] (nxE i) (nxW c left 2) (NxZ pa pf fb i left s) w := by
  intro l J Jx W _ hZ h0 hJ _ hY
  exact nx_in F n hF hro hroom hn pa pf fb i left s c hi hs hc hl l J Jx W hZ h0 hJ hY
theorem next_any (fb i : Nat) (left : Int) (w : World) :
    Calls Tryd.prog 71 #[.pointer (some ⟨fb, 0, none⟩), .agg #[.int .i64 (i : Nat), .int .i64 left]] w fun e w' =>
      e = .returned (.func (.func 106) #[] #[.pointer (some ⟨w.heap.size + 1, 0, none⟩), .pointer (some ⟨w.heap.size, 0, none⟩)]) ∧
      (w.alloc (.cells #[.pointer (some ⟨fb, 0, none⟩)] 125)).alloc (.cells #[.int .i64 (i : Nat), .int .i64 left] 127) = w' := by
  go_enter Tryd.func71, Tryd.ntmps71
  go_wp2_with fail
  go_ret
  exact ⟨by simp, rfl⟩
theorem sgr_trans {a b c : World} {p : Nat} (h : a.grownBy b (some p)) (k : b.grownBy c (some p)) : a.grownBy c (some p) :=
  ⟨k.os.trans h.os, k.tape.trans h.tape, k.output.trans h.output, Nat.le_trans h.size k.size, fun i hi e => (k.block i (Nat.lt_of_lt_of_le hi h.size) e).trans (h.block i hi e)⟩
theorem sgr_below {a b : World} (h : Below a.heap.size a b) (p : Nat) : a.grownBy b (some p) := ⟨h.os, h.tape, h.output, h.size, fun i hi _ => h.block i hi⟩
theorem sgr_more {w W W' : World} {p : Nat} {row : Option Nat} (h : w.grownBy W (some p)) (hg : W.grownBy W' row) (hr : ∀ r, row = some r → w.heap.size ≤ r) : w.grownBy W' (some p) :=
  ⟨hg.os.trans h.os, hg.tape.trans h.tape, hg.output.trans h.output, Nat.le_trans h.size hg.size, fun i hi e => (hg.block i (Nat.lt_of_lt_of_le hi h.size) (fun e2 => by have := hr i e2.symm; omega)).trans (h.block i hi e)⟩
/-- what is counted of a place from the weights on that may stand there -/
def smN (r : List UInt8) (l : List (UInt8 × Int)) : Nat := (l.map fun x => ctW r x.2).sum
theorem smN_app (r : List UInt8) (l : List (UInt8 × Int)) (x : UInt8 × Int) : smN r (l ++ [x]) = smN r l + ctW r x.2 := by simp [smN]
theorem smN_all (c : UInt8) (r : List UInt8) (left : Int) : smN r (nxW c left 2) = ctW (c :: r) left := by
  have e : nxW c left 2 = (if okW c 103 left 2 then [(103, lfW left 2)] else []) ++ (if okW c 108 left 1 then [(108, lfW left 1)] else []) := rfl
  have e2 : ctW (c :: r) left = (if okW c 103 left 2 then ctW r (lfW left 2) else 0) + (if okW c 108 left 1 then ctW r (lfW left 1) else 0) := rfl
  rw [e, e2]
  unfold smN
  cases okW c 103 left 2 <;> cases okW c 108 left 1 <;> simp
theorem smN_le {r : List UInt8} {l L : List (UInt8 × Int)} (h : l <+: L) : smN r l ≤ smN r L := by
  obtain ⟨t, rfl⟩ := h
  simp [smN]
theorem nx_mem {c : UInt8} {left : Int} {x : UInt8 × Int} (hl : LfOk left) (h : x ∈ nxW c left 2) : LfOk x.2 := by
  have hk : ∀ w d, okW c w left d = true → left < 0 ∨ d ≤ left := fun w d h => by
    unfold okW at h
    obtain ⟨-, h⟩ := (Bool.and_eq_true _ _).mp h
    rw [Bool.or_eq_true, decide_eq_true_iff, decide_eq_true_iff] at h
    exact h
  have h : x ∈ (if okW c 103 left 2 then [((103 : UInt8), lfW left 2)] else []) ++ (if okW c 108 left 1 then [((108 : UInt8), lfW left 1)] else []) := h
  rcases List.mem_append.1 h with h | h
  · split at h
    · rename_i h1
      rw [List.mem_singleton] at h
      subst h
      exact hl.next (by omega) (hk _ _ h1)
    · cases h
  · split at h
    · rename_i h1
      rw [List.mem_singleton] at h
      subst h
      exact hl.next (by omega) (hk _ _ h1)
    · cases h
theorem sdrop_at {p : List UInt8} {i : Nat} {c : UInt8} (h : i < p.length) (hc : p[i] = c) : p.drop i = c :: p.drop (i + 1) := by
  rw [List.drop_eq_getElem_cons h, hc]
/-- a filler as it lies, with what it knows -/
structure FlR (w : World) (fb mp : Nat) (s : ByteArray) (u : Int) (p : List UInt8) : Prop where
  blk : Blk w fb 162 #[.string s, .int .i64 u, .map (some mp)]
  pm : PmAt w mp p
theorem FlR.ext {w w' : World} {fb mp : Nat} {s : ByteArray} {u : Int} {p : List UInt8} (h : FlR w fb mp s u p) (hb : Below w.heap.size w w') : FlR w' fb mp s u p := ⟨h.blk.ext hb, h.pm.ext hb⟩
theorem FlR.ne {w : World} {fb mp : Nat} {s : ByteArray} {u : Int} {p : List UInt8} (h : FlR w fb mp s u p) : fb ≠ mp := by
  intro e
  obtain ⟨o, ho, hc⟩ := h.pm.map
  have := h.blk
  rw [e] at this
  unfold Blk at this
  rw [this] at ho
  injection ho with ho
  subst ho
  cases hc
theorem FlR.turn {w w' : World} {fb mp : Nat} {s : ByteArray} {u : Int} {p : List UInt8} (h : FlR w fb mp s u p) (hg : w.grownBy w' (some mp)) (hf : PmAt w' mp p) : FlR w' fb mp s u p :=
  ⟨h.blk.grown hg (fun e => by injection e with e; exact h.ne e), hf⟩
/-- the deferred closure of count -/
theorem known_d (F : Fence) (n : Nat) (hF : ∀ f, F.fn f) (hro : F.round = none) (m : FrameMode) (w : World) (b4 b2 b3 fb mp i v : Nat) (left : Int) (p : List UInt8) (hx : PlOk p (i, left)) (hM : PmAt w mp p) (hv : plW p (i, left) = v)
    (hs : (w.cell? ⟨b2, 0, none⟩ = some (.pointer (some ⟨fb, 0, none⟩)) ∧ w.cell? ⟨fb, 2, none⟩ = some (.map (some mp)) ∧ (w.cell? ⟨b3, 0, none⟩ = some (.int .i64 (i : Nat)) ∧ w.cell? ⟨b3, 1, none⟩ = some (.int .i64 left)) ∧ w.cell? ⟨b4, 0, none⟩ = some (.int .i64 (v : Nat)))) :
    CallsDIn F n Tryd.prog 105 #[.pointer (some ⟨b4, 0, none⟩), .pointer (some ⟨b2, 0, none⟩), .pointer (some ⟨b3, 0, none⟩)] m w fun e m' w' => m' = m ∧ e = .returned (.tuple #[]) ∧ PmAt w' mp p ∧ w.grownBy w' (some mp) := by
  refine callsDIn_of_wp Tryd.func105 rfl (hF _) ?_ hro
  simp only [Tryd.ntmps105, List.size_toArray, List.length_cons, List.length_nil, Nat.reduceAdd, Nat.reduceSub, Array.replicate_succ, Array.replicate_zero, List.push_toArray, List.append_toArray, List.nil_append, List.cons_append]
  have hb := (Below.refl w.heap.size w).drew
  obtain ⟨w', hrun, hp', hg⟩ := pm_put (hM.ext hb) hx
  rw [hv] at hrun
  have HRUN := hide hrun
  have HS : Hid (w.drew.cell? ⟨b2, 0, none⟩ = some (.pointer (some ⟨fb, 0, none⟩)) ∧ w.drew.cell? ⟨fb, 2, none⟩ = some (.map (some mp)) ∧ (w.drew.cell? ⟨b3, 0, none⟩ = some (.int .i64 (i : Nat)) ∧ w.drew.cell? ⟨b3, 1, none⟩ = some (.int .i64 left)) ∧ w.drew.cell? ⟨b4, 0, none⟩ = some (.int .i64 (v : Nat))) := hide (by
    obtain ⟨a1, a2, ⟨a3, a4⟩, a5⟩ := hs
    exact ⟨(hb.cell (cell_lt a1)).trans a1, (hb.cell (cell_lt a2)).trans a2, ⟨(hb.cell (cell_lt a3)).trans a3, (hb.cell (cell_lt a4)).trans a4⟩, (hb.cell (cell_lt a5)).trans a5⟩)
  have HP := hide hp'
  have HG : Hid (w.grownBy w' (some mp)) := hide (sgr_trans (sgr_below hb mp) hg)
  clear hb hp' hg hrun hs hM hv hx
  gi_wp2_with fail
  refine wpIn_on ?_
  refine wpIn_region_J (fun W : World => (W.cell? ⟨b2, 0, none⟩ = some (.pointer (some ⟨fb, 0, none⟩)) ∧ W.cell? ⟨fb, 2, none⟩ = some (.map (some mp)) ∧ (W.cell? ⟨b3, 0, none⟩ = some (.int .i64 (i : Nat)) ∧ W.cell? ⟨b3, 1, none⟩ = some (.int .i64 left)) ∧ W.cell? ⟨b4, 0, none⟩ = some (.int .i64 (v : Nat)))) (by kernel_rfl) ?_
  generalize w.drew = wd at HRUN HS ⊢
  refine tk_start [0, 1, 2, 3, 4, 5] ?_
  iterate 6
    refine tk_one (v := ?_) (by first | exact hF | exact wideFn) HS.out rfl (by kernel_rfl) (by kernel_rfl) (by kernel_rfl) (by kernel_rfl) rfl ?_ (by first | exact fun _ _ _ h => h | exact fun _ _ _ h => hQ2 _ _ _ _ _ h) ?_
    rotate_left
    · intro W hSW
      simp only [List.getElem_toArray, List.getElem_cons_zero, List.getElem_cons_succ]
      (try dsimp only at hSW)
      go_simp
      with_reducible rfl
    (try simp only [List.getElem_toArray, List.getElem_cons_zero, List.getElem_cons_succ, Act.put, List.setIfInBounds_toArray, List.set_cons_zero, List.set_cons_succ])
  refine tk_end ?_
  have hrun := HRUN.out
  unfold plV at hrun
  refine wpAnyJ_one 6 rfl (by kernel_rfl) (fun K hK => ?_)
  simp only [List.getElem_toArray, List.getElem_cons_zero, List.getElem_cons_succ]
  go_simp
  refine hK.out _ _ (fun h => absurd h (by rw [show lastOp _ _ _ = true from by kernel_rfl]; simp)) ?_
  clear hK K
  (try simp only [List.getElem_toArray, List.getElem_cons_zero, List.getElem_cons_succ, Act.put, List.setIfInBounds_toArray, List.set_cons_zero, List.set_cons_succ])
  refine wpAnyJ_done (by kernel_rfl) ?_
  dsimp only [OnlyNormal]
  gi_wp2_with fail
  go_end0
  exact ⟨rfl, HP.out, HG.out⟩
end Go.Proofs.YtlkkkgpcjdemdaaDoor
