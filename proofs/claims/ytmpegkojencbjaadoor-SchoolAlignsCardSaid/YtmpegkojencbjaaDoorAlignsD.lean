/- School: Align, whole. -/
import Derived.Test.YtmpegkojencbjaaDoorAlignsC
import Derived.Lib.AppendZeros
import Derived.Maps.AppendAt
set_option linter.unusedSimpArgs false
set_option linter.unusedVariables false
set_option linter.unnecessarySimpa false
namespace Go.Proofs.YtmpegkojencbjaaDoor
open Go Go.RowKit Go.Shelf
set_option maxHeartbeats 2000000
set_option maxRecDepth 100000
theorem OwnE.nil (W : World) (n0 : Nat) : OwnE W n0 (.slice none 0 0) [] := ⟨rfl, .inl ⟨rfl, rfl⟩⟩
theorem OwnE.low {W : World} {n0 n1 : Nat} {v : Value} {l : List Ed} (h : OwnE W n0 v l) (hb : n1 ≤ n0) : OwnE W n1 v l := ⟨h.1, h.2.imp id fun ⟨g, cap, cur, h1, h2, h3⟩ => ⟨g, cap, cur, h1, Nat.le_trans hb h2, h3⟩⟩
/-- two texts that are listed -/
theorem two_texts (A B : Option Addr) (c d : Nat) (a b : List Wd) (w : World) (ha : SzOk a) (hb : SzOk b) (hA : SR w w.heap.size A a) (hB : SR w w.heap.size B b) :
    TxR (w.alloc (.cells #[.slice A a.length c, .slice B b.length d] 22)) (w.alloc (.cells #[.slice A a.length c, .slice B b.length d] 22)).heap.size (some ⟨w.heap.size, 0, none⟩) 2 (fun k => if k = 0 then A else B) (fun k => if k = 0 then c else d) (fun k => if k = 0 then a else b) := by
  have hB0 : Below w.heap.size w (w.alloc (.cells #[.slice A a.length c, .slice B b.length d] 22)) := (Below.refl _ _).alloc (Nat.le_refl _) (.cells #[.slice A a.length c, .slice B b.length d] 22)
  have hN := Blk.new w 22 #[.slice A a.length c, .slice B b.length d]
  have hsz := hB0.size
  refine ⟨fun _ => ⟨w.heap.size, 0, rfl, by simp, fun k i hk hi => ?_⟩, fun k hk => ?_⟩
  · rcases (by omega : k = 0 ∨ k = 1) with rfl | rfl <;> rcases (by omega : i = 0) with rfl
    · rw [hN.cell]; rfl
    · rw [hN.cell]; rfl
  · rcases (by omega : k = 0 ∨ k = 1) with rfl | rfl
    · exact ⟨ha, (hA.below hB0 (Nat.le_refl _)).more hsz⟩
    · exact ⟨hb, (hB.below hB0 (Nat.le_refl _)).more hsz⟩
def AgPost (w : World) (a b : List Wd) (e : Ending) (w' : World) : Prop :=
  ∃ v, e = .returned (.tuple #[v, .int .i64 (if textB a && textB b then 0 else 2)]) ∧ OwnE w' w.heap.size v (if textB a && textB b then alL a 0 b else []) ∧ Below w.heap.size w w'
theorem textB_len {a : List Wd} (h : textB a = true) : a.length ≤ 20 := by
  unfold textB at h
  rw [Bool.and_eq_true] at h
  exact of_decide_eq_true h.1
theorem Align_any (A B : Option Addr) (c d : Nat) (a b : List Wd) (w : World) (ha : SzOk a) (hb : SzOk b) (hA : SR w w.heap.size A a) (hB : SR w w.heap.size B b) :
    Calls Tryd.prog 17 #[.slice A a.length c, .slice B b.length d] w (AgPost w a b) := by
  have hB0 : Below w.heap.size w (w.alloc (.cells #[.slice A a.length c, .slice B b.length d] 22)) := (Below.refl _ _).alloc (Nat.le_refl _) (.cells #[.slice A a.length c, .slice B b.length d] 22)
  have HT := hide (isText_any (some ⟨w.heap.size, 0, none⟩) 2 2 _ _ _ (w.alloc (.cells #[.slice A a.length c, .slice B b.length d] 22)) (by unfold maxLen; omega) (two_texts A B c d a b w ha hb hA hB))
  have e0 : (!anyTo (fun k => !textB (if k = 0 then a else b)) 2) = (textB a && textB b) := by
    show (!((false || !textB a) || !textB b)) = _
    cases textB a <;> cases textB b <;> rfl
  rw [e0] at HT
  clear e0
  have HA : ∀ w2, Below w.heap.size w w2 → textB a = true → textB b = true → Calls Tryd.prog 50 #[.slice A a.length c, .slice B b.length d] w2 (AlignPost w2 a b) := fun w2 h2 h3 h4 =>
    align_any A B c d a b w2 (by have := textB_len h3; omega) (by have := textB_len h4; omega) ((hA.below h2 (Nat.le_refl _)).more h2.size) ((hB.below h2 (Nat.le_refl _)).more h2.size)
  have HAL := hide HA
  have HB0 := hide hB0
  unfold AgPost
  clear HA hB0 hA hB ha hb
  rcases hx : textB a && textB b with _ | _
  · rw [hx] at HT
    clear hx HAL
    go_enter Tryd.func17, Tryd.ntmps17
    go_wp2_with fail
    refine HT.out.mono ?_
    rintro e w2 ⟨rfl, hb2⟩
    go_wp2_with fail
    go_ret2
    exact ⟨_, rfl, OwnE.nil _ _, HB0.out.trans (hb2.mono HB0.out.size)⟩
  · rw [hx] at HT
    rw [Bool.and_eq_true] at hx
    obtain ⟨h3, h4⟩ := hx
    have HY := hide h3
    have HZ := hide h4
    clear h3 h4
    go_enter Tryd.func17, Tryd.ntmps17
    go_wp2_with fail
    refine HT.out.mono ?_
    rintro e w2 ⟨rfl, hb2⟩
    have H2 := hide (HB0.out.trans (hb2.mono HB0.out.size))
    clear hb2
    go_wp2_with fail
    refine (HAL.out w2 H2.out HY.out HZ.out).mono ?_
    rintro e w3 ⟨v, rfl, ho, hb3⟩
    go_wp2_with fail
    go_ret2
    exact ⟨v, rfl, ho.low H2.out.size, H2.out.trans (hb3.mono H2.out.size)⟩
end Go.Proofs.YtmpegkojencbjaaDoor
/- School: lists of edits that are read; slices.Equal at edits, join. -/
namespace Go.Proofs.YtmpegkojencbjaaDoor
open List (getElem_toArray getElem_cons_zero getElem_cons_succ setIfInBounds_toArray set_cons_zero set_cons_succ)
open Go Go.RowKit Go.Shelf
set_option maxHeartbeats 2000000
set_option maxRecDepth 100000
def e0 : Ed := ⟨0, 0, noW, noW⟩
def edV (e : Ed) (i : Nat) : Value := if i = 0 then .int .i64 e.ki else if i = 1 then .int .i64 e.at_ else if i = 2 then .string e.old else .string e.new
/-- a list of edits that is read -/
def EdR (w : World) (B : Nat) (A : Option Addr) (l : List Ed) : Prop := ER w B 4 A l.length fun k i => edV (l.getD k e0) i
theorem EdR.nil (w : World) (B : Nat) (A : Option Addr) : EdR w B A [] := fun h => absurd h (by simp)
theorem cellsE_at (l : List Ed) : ∀ (k i : Nat), k < l.length → i < 4 → (cellsE l)[k * 4 + i]? = some (edV (l.getD k e0) i) := by
  induction l with
  | nil => intro k i hk; simp at hk
  | cons x l ih =>
    intro k i hk hi
    show (edC x ++ cellsE l)[k * 4 + i]? = _
    cases k with
    | zero =>
      rcases (by omega : i = 0 ∨ i = 1 ∨ i = 2 ∨ i = 3) with rfl | rfl | rfl | rfl <;> rfl
    | succ k =>
      rw [List.getElem?_append_right (by show 4 ≤ _; omega)]
      have : (k + 1) * 4 + i - (edC x).length = k * 4 + i := by show _ - 4 = _; omega
      rw [this, ih k i (by simpa using hk) hi]
      rfl
theorem OwnE.edR {W : World} {n0 : Nat} {v : Value} {l : List Ed} (h : OwnE W n0 v l) : ∃ A c, v = .slice A l.length c ∧ EdR W W.heap.size A l := by
  obtain ⟨A, c, rfl⟩ := own_shape h
  refine ⟨A, c, rfl, fun hn => ?_⟩
  rcases h.2 with ⟨h1, h2⟩ | ⟨g, cap, cur, h1, h2, h3, h4, h5, h6, h7⟩
  · omega
  · injection h1 with hA
    subst hA
    have hg := (World.ownsRow.lt h g rfl).2
    refine ⟨g, 0, rfl, hg, fun k i hk hi => ?_⟩
    have hc := World.ownsRow.cells h (g := g) rfl (k * 4 + i) _ (cellsE_at l k i hk hi)
    have e1 : ((⟨g, 0, none⟩ : Addr).add (k * 4 + i)) = ⟨g, 0 + k * 4 + i, none⟩ := by simp [Addr.add]; omega
    rw [e1] at hc
    exact hc
theorem EdR.at_ {w : World} {B : Nat} {A : Option Addr} {l : List Ed} (h : EdR w B A l) {k : Nat} (hk : k < l.length) {e : Ed} (he : l.getD k e0 = e) :
    ∃ b off, A = some ⟨b, off, none⟩ ∧ b < B ∧ w.cell? ⟨b, off + k * 4, none⟩ = some (.int .i64 e.ki) ∧ w.cell? ⟨b, off + k * 4 + 1, none⟩ = some (.int .i64 e.at_) ∧
      w.cell? ⟨b, off + k * 4 + 2, none⟩ = some (.string e.old) ∧ w.cell? ⟨b, off + k * 4 + 3, none⟩ = some (.string e.new) := by
  obtain ⟨b, off, hA, hlt, hc⟩ := h (by omega)
  subst he
  exact ⟨b, off, hA, hlt, hc k 0 hk (by omega), hc k 1 hk (by omega), hc k 2 hk (by omega), hc k 3 hk (by omega)⟩
theorem getD_all {l m : List Ed} (hl : l.length = m.length) (h : ∀ k, k < l.length → l.getD k e0 = m.getD k e0) : l = m := by
  apply List.ext_getElem hl
  intro k h1 h2
  have := h k h1
  rwa [List.getD_eq_getElem?_getD, List.getD_eq_getElem?_getD, List.getElem?_eq_getElem h1, List.getElem?_eq_getElem h2] at this
theorem equalE_any (A B : Option Addr) (c d : Nat) (l m : List Ed) (w : World) (hl : l.length ≤ maxLen) (hA : EdR w w.heap.size A l) (hB : EdR w w.heap.size B m) :
    Calls Tryd.prog 77 #[.slice A l.length c, .slice B m.length d] w fun e w' => e = .returned (.bool (decide (l = m))) ∧ Below w.heap.size w w' := by
  unfold maxLen at hl
  have HA := hide hA
  have HB := hide hB
  clear hA hB
  by_cases hlm : l.length = m.length
  · obtain ⟨n, hn⟩ : ∃ n, l.length = n := ⟨_, rfl⟩
    have hm : m.length = n := by omega
    have HN := hide (And.intro hn hm)
    rw [hn] at hl
    rw [hn, hm]
    clear hlm hn hm
    go_enter Tryd.func77, Tryd.ntmps77
    go_wp2_with fail
    go_loopw [13] (fun i wr => ∃ k : Nat, k ≤ n ∧ i = .int .i64 k ∧ (∀ j, j < k → l.getD j e0 = m.getD j e0) ∧ Below w.heap.size w wr) (fun i _ => n - (intOf i).toNat)
    case atStart => exact ⟨0, Nat.zero_le _, rfl, fun j hj => absurd hj (by omega), Below.refl _ _⟩
    case round =>
      obtain ⟨k, hk, rfl, hx, hbw⟩ := hrel
      have HX := hide hx
      have HBW := hide hbw
      clear hx
      by_cases hlt : k < n
      · have hlt' : (k : Int) < (n : Int) := by omega
        have i0 : (0 : Int) ≤ (k : Int) := by omega
        obtain ⟨e, he⟩ : ∃ e, l.getD k e0 = e := ⟨_, rfl⟩
        obtain ⟨f, hf⟩ : ∃ f, m.getD k e0 = f := ⟨_, rfl⟩
        obtain ⟨xb, xo, rfl, hxb, a0, a1, a2, a3⟩ := HA.out.at_ (by rw [HN.out.1]; exact hlt) he
        obtain ⟨yb, yo, rfl, hyb, b0, b1, b2, b3⟩ := HB.out.at_ (by rw [HN.out.2]; exact hlt) hf
        have HE := hide (And.intro he hf)
        clear he hf
        obtain ⟨x0, x1, x2, x3⟩ := e
        obtain ⟨y0, y1, y2, y3⟩ := f
        dsimp only at a0 a1 a2 a3 b0 b1 b2 b3
        have HS : Hid (∀ W, Below w.heap.size w W → (W.cell? ⟨xb, xo + k * 4, none⟩ = some (.int .i64 x0) ∧ W.cell? ⟨xb, xo + k * 4 + 1, none⟩ = some (.int .i64 x1) ∧ W.cell? ⟨xb, xo + k * 4 + 2, none⟩ = some (.string x2) ∧ W.cell? ⟨xb, xo + k * 4 + 3, none⟩ = some (.string x3)) ∧ (W.cell? ⟨yb, yo + k * 4, none⟩ = some (.int .i64 y0) ∧ W.cell? ⟨yb, yo + k * 4 + 1, none⟩ = some (.int .i64 y1) ∧ W.cell? ⟨yb, yo + k * 4 + 2, none⟩ = some (.string y2) ∧ W.cell? ⟨yb, yo + k * 4 + 3, none⟩ = some (.string y3))) := hide fun W h =>
          ⟨⟨(h.cell (p := ⟨xb, xo + k * 4, none⟩) hxb).trans a0, (h.cell (p := ⟨xb, xo + k * 4 + 1, none⟩) hxb).trans a1, (h.cell (p := ⟨xb, xo + k * 4 + 2, none⟩) hxb).trans a2, (h.cell (p := ⟨xb, xo + k * 4 + 3, none⟩) hxb).trans a3⟩,
           (h.cell (p := ⟨yb, yo + k * 4, none⟩) hyb).trans b0, (h.cell (p := ⟨yb, yo + k * 4 + 1, none⟩) hyb).trans b1, (h.cell (p := ⟨yb, yo + k * 4 + 2, none⟩) hyb).trans b2, (h.cell (p := ⟨yb, yo + k * 4 + 3, none⟩) hyb).trans b3⟩
        clear a0 a1 a2 a3 b0 b1 b2 b3 hbw
        go_upto_region 6 with fail
        have Bd := hide (HBW.out.trans ((Below.refl wr.heap.size wr).drew.mono HBW.out.size))
        refine wp_region_J (fun W : World => (W.cell? ⟨xb, xo + k * 4, none⟩ = some (.int .i64 x0) ∧ W.cell? ⟨xb, xo + k * 4 + 1, none⟩ = some (.int .i64 x1) ∧ W.cell? ⟨xb, xo + k * 4 + 2, none⟩ = some (.string x2) ∧ W.cell? ⟨xb, xo + k * 4 + 3, none⟩ = some (.string x3)) ∧ (W.cell? ⟨yb, yo + k * 4, none⟩ = some (.int .i64 y0) ∧ W.cell? ⟨yb, yo + k * 4 + 1, none⟩ = some (.int .i64 y1) ∧ W.cell? ⟨yb, yo + k * 4 + 2, none⟩ = some (.string y2) ∧ W.cell? ⟨yb, yo + k * 4 + 3, none⟩ = some (.string y3))) (by kernel_rfl) ?_
        generalize wr.drew = wd at Bd ⊢
        refine wpAnyJ_take 0 (v := ?_) (by first | exact hF | exact wideFn) (HS.out _ Bd.out) rfl (by kernel_rfl) (by kernel_rfl) (by kernel_rfl) (by kernel_rfl) rfl ?_ (by first | exact fun _ _ _ h => h | exact fun _ _ _ h => hQ2 _ _ _ _ _ h) ?_
        rotate_left
        · intro W hSW
          simp only [getElem_toArray, getElem_cons_zero, getElem_cons_succ]
          (try dsimp only at hSW)
          go_simp
          with_reducible rfl
        (try simp only [getElem_toArray, getElem_cons_zero, getElem_cons_succ, Act.put, setIfInBounds_toArray, set_cons_zero, set_cons_succ])
        refine wpAnyJ_take 1 (v := ?_) (by first | exact hF | exact wideFn) (HS.out _ Bd.out) rfl (by kernel_rfl) (by kernel_rfl) (by kernel_rfl) (by kernel_rfl) rfl ?_ (by first | exact fun _ _ _ h => h | exact fun _ _ _ h => hQ2 _ _ _ _ _ h) ?_
        rotate_left
        · intro W hSW
          simp only [getElem_toArray, getElem_cons_zero, getElem_cons_succ]
          (try dsimp only at hSW)
          go_simp
          with_reducible rfl
        (try simp only [getElem_toArray, getElem_cons_zero, getElem_cons_succ, Act.put, setIfInBounds_toArray, set_cons_zero, set_cons_succ])
        refine wpAnyJ_take 2 (v := ?_) (by first | exact hF | exact wideFn) (HS.out _ Bd.out) rfl (by kernel_rfl) (by kernel_rfl) (by kernel_rfl) (by kernel_rfl) rfl ?_ (by first | exact fun _ _ _ h => h | exact fun _ _ _ h => hQ2 _ _ _ _ _ h) ?_
        rotate_left
        · intro W hSW
          simp only [getElem_toArray, getElem_cons_zero, getElem_cons_succ]
          (try dsimp only at hSW)
          go_simp
          with_reducible rfl
        (try simp only [getElem_toArray, getElem_cons_zero, getElem_cons_succ, Act.put, setIfInBounds_toArray, set_cons_zero, set_cons_succ])
        refine wpAnyJ_take 3 (v := ?_) (by first | exact hF | exact wideFn) (HS.out _ Bd.out) rfl (by kernel_rfl) (by kernel_rfl) (by kernel_rfl) (by kernel_rfl) rfl ?_ (by first | exact fun _ _ _ h => h | exact fun _ _ _ h => hQ2 _ _ _ _ _ h) ?_
        rotate_left
        · intro W hSW
          simp only [getElem_toArray, getElem_cons_zero, getElem_cons_succ]
          (try dsimp only at hSW)
          go_simp
          with_reducible rfl
        (try simp only [getElem_toArray, getElem_cons_zero, getElem_cons_succ, Act.put, setIfInBounds_toArray, set_cons_zero, set_cons_succ])
        refine wpAnyJ_take 4 (v := ?_) (by first | exact hF | exact wideFn) (HS.out _ Bd.out) rfl (by kernel_rfl) (by kernel_rfl) (by kernel_rfl) (by kernel_rfl) rfl ?_ (by first | exact fun _ _ _ h => h | exact fun _ _ _ h => hQ2 _ _ _ _ _ h) ?_
        rotate_left
        · intro W hSW
          simp only [getElem_toArray, getElem_cons_zero, getElem_cons_succ]
          (try dsimp only at hSW)
          go_simp
          with_reducible rfl
        (try simp only [getElem_toArray, getElem_cons_zero, getElem_cons_succ, Act.put, setIfInBounds_toArray, set_cons_zero, set_cons_succ])
        refine wpAnyJ_take 5 (v := ?_) (by first | exact hF | exact wideFn) (HS.out _ Bd.out) rfl (by kernel_rfl) (by kernel_rfl) (by kernel_rfl) (by kernel_rfl) rfl ?_ (by first | exact fun _ _ _ h => h | exact fun _ _ _ h => hQ2 _ _ _ _ _ h) ?_
        rotate_left
        · intro W hSW
          simp only [getElem_toArray, getElem_cons_zero, getElem_cons_succ]
          (try dsimp only at hSW)
          go_simp
          with_reducible rfl
        (try simp only [getElem_toArray, getElem_cons_zero, getElem_cons_succ, Act.put, setIfInBounds_toArray, set_cons_zero, set_cons_succ])
        refine wpAnyJ_take 6 (v := ?_) (by first | exact hF | exact wideFn) (HS.out _ Bd.out) rfl (by kernel_rfl) (by kernel_rfl) (by kernel_rfl) (by kernel_rfl) rfl ?_ (by first | exact fun _ _ _ h => h | exact fun _ _ _ h => hQ2 _ _ _ _ _ h) ?_
        rotate_left
        · intro W hSW
          simp only [getElem_toArray, getElem_cons_zero, getElem_cons_succ]
          (try dsimp only at hSW)
          go_simp
          with_reducible rfl
        (try simp only [getElem_toArray, getElem_cons_zero, getElem_cons_succ, Act.put, setIfInBounds_toArray, set_cons_zero, set_cons_succ])
        refine wpAnyJ_take 7 (v := ?_) (by first | exact hF | exact wideFn) (HS.out _ Bd.out) rfl (by kernel_rfl) (by kernel_rfl) (by kernel_rfl) (by kernel_rfl) rfl ?_ (by first | exact fun _ _ _ h => h | exact fun _ _ _ h => hQ2 _ _ _ _ _ h) ?_
        rotate_left
        · intro W hSW
          simp only [getElem_toArray, getElem_cons_zero, getElem_cons_succ]
          (try dsimp only at hSW)
          go_simp
          with_reducible rfl
        (try simp only [getElem_toArray, getElem_cons_zero, getElem_cons_succ, Act.put, setIfInBounds_toArray, set_cons_zero, set_cons_succ])
        by_cases q0 : x0 = y0
        · by_cases q1 : x1 = y1
          · by_cases q2 : x2 = y2
            · by_cases q3 : x3 = y3
              · subst q0 q1 q2 q3
                refine wpAnyJ_take 8 (v := ?_) (by first | exact hF | exact wideFn) (HS.out _ Bd.out) rfl (by kernel_rfl) (by kernel_rfl) (by kernel_rfl) (by kernel_rfl) rfl ?_ (by first | exact fun _ _ _ h => h | exact fun _ _ _ h => hQ2 _ _ _ _ _ h) ?_
                rotate_left
                · intro W hSW
                  simp only [getElem_toArray, getElem_cons_zero, getElem_cons_succ]
                  (try dsimp only at hSW)
                  go_simp
                  with_reducible rfl
                (try simp only [getElem_toArray, getElem_cons_zero, getElem_cons_succ, Act.put, setIfInBounds_toArray, set_cons_zero, set_cons_succ])
                refine wpAnyJ_done (by kernel_rfl) ?_
                go_wp2_with fail
                go_roundw
                case rel => exact ⟨k + 1, by omega, by go_num, fun j hj => by
                  rcases (by omega : j < k ∨ j = k) with h | h
                  · exact HX.out j h
                  · rw [h, HE.out.1, HE.out.2], Bd.out⟩
                case measure => simp [intOf]; omega
              · have q3' := str_ne q3
                refine wpAnyJ_take 8 (v := ?_) (by first | exact hF | exact wideFn) (HS.out _ Bd.out) rfl (by kernel_rfl) (by kernel_rfl) (by kernel_rfl) (by kernel_rfl) rfl ?_ (by first | exact fun _ _ _ h => h | exact fun _ _ _ h => hQ2 _ _ _ _ _ h) ?_
                rotate_left
                · intro W hSW
                  simp only [getElem_toArray, getElem_cons_zero, getElem_cons_succ]
                  (try dsimp only at hSW)
                  go_simp
                  with_reducible rfl
                (try simp only [getElem_toArray, getElem_cons_zero, getElem_cons_succ, Act.put, setIfInBounds_toArray, set_cons_zero, set_cons_succ])
                refine wpAnyJ_done (by kernel_rfl) ?_
                go_wp2_with fail
                go_ret
                refine ⟨ret_bool ?_, Bd.out⟩
                have hne : ¬ l = m := fun e => by
                  have h1 := HE.out.1
                  rw [e, HE.out.2] at h1
                  injection h1 with h0 h1 h2 h3
                  exact q3 h3.symm
                simp [hne]
            · have q2' := str_ne q2
              refine wpAnyJ_take 8 (v := ?_) (by first | exact hF | exact wideFn) (HS.out _ Bd.out) rfl (by kernel_rfl) (by kernel_rfl) (by kernel_rfl) (by kernel_rfl) rfl ?_ (by first | exact fun _ _ _ h => h | exact fun _ _ _ h => hQ2 _ _ _ _ _ h) ?_
              rotate_left
              · intro W hSW
                simp only [getElem_toArray, getElem_cons_zero, getElem_cons_succ]
                (try dsimp only at hSW)
                go_simp
                with_reducible rfl
              (try simp only [getElem_toArray, getElem_cons_zero, getElem_cons_succ, Act.put, setIfInBounds_toArray, set_cons_zero, set_cons_succ])
              refine wpAnyJ_done (by kernel_rfl) ?_
              go_wp2_with fail
              go_ret
              refine ⟨ret_bool ?_, Bd.out⟩
              have hne : ¬ l = m := fun e => by
                have h1 := HE.out.1
                rw [e, HE.out.2] at h1
                injection h1 with h0 h1 h2 h3
                exact q2 h2.symm
              simp [hne]
          · refine wpAnyJ_take 8 (v := ?_) (by first | exact hF | exact wideFn) (HS.out _ Bd.out) rfl (by kernel_rfl) (by kernel_rfl) (by kernel_rfl) (by kernel_rfl) rfl ?_ (by first | exact fun _ _ _ h => h | exact fun _ _ _ h => hQ2 _ _ _ _ _ h) ?_
            rotate_left
            · intro W hSW
              simp only [getElem_toArray, getElem_cons_zero, getElem_cons_succ]
              (try dsimp only at hSW)
              go_simp
              with_reducible rfl
            (try simp only [getElem_toArray, getElem_cons_zero, getElem_cons_succ, Act.put, setIfInBounds_toArray, set_cons_zero, set_cons_succ])
            refine wpAnyJ_done (by kernel_rfl) ?_
            go_wp2_with fail
            go_ret
            refine ⟨ret_bool ?_, Bd.out⟩
            have hne : ¬ l = m := fun e => by
              have h1 := HE.out.1
              rw [e, HE.out.2] at h1
              injection h1 with h0 h1 h2 h3
              exact q1 h1.symm
            simp [hne]
        · refine wpAnyJ_take 8 (v := ?_) (by first | exact hF | exact wideFn) (HS.out _ Bd.out) rfl (by kernel_rfl) (by kernel_rfl) (by kernel_rfl) (by kernel_rfl) rfl ?_ (by first | exact fun _ _ _ h => h | exact fun _ _ _ h => hQ2 _ _ _ _ _ h) ?_
          rotate_left
          · intro W hSW
            simp only [getElem_toArray, getElem_cons_zero, getElem_cons_succ]
            (try dsimp only at hSW)
            go_simp
            with_reducible rfl
          (try simp only [getElem_toArray, getElem_cons_zero, getElem_cons_succ, Act.put, setIfInBounds_toArray, set_cons_zero, set_cons_succ])
          refine wpAnyJ_done (by kernel_rfl) ?_
          go_wp2_with fail
          go_ret
          refine ⟨ret_bool ?_, Bd.out⟩
          have hne : ¬ l = m := fun e => by
            have h1 := HE.out.1
            rw [e, HE.out.2] at h1
            injection h1 with h0 h1 h2 h3
            exact q0 h0.symm
          simp [hne]
      · obtain rfl : k = n := by omega
        go_wp2_with fail
        go_ret
        refine ⟨ret_bool ?_, HBW.out⟩
        have : l = m := getD_all (by rw [HN.out.1, HN.out.2]) (by rw [HN.out.1]; exact HX.out)
        simp [this]
  · have hne : ¬ ((l.length : Int) = (m.length : Int)) := by omega
    have hd : decide (l = m) = false := by
      rw [decide_eq_false_iff_not]; intro h; exact hlm (by rw [h])
    rw [hd]
    clear hd
    generalize l.length = n1 at *
    generalize m.length = n2 at *
    go_enter Tryd.func77, Tryd.ntmps77
    go_wp2_with fail
    go_ret
    exact ⟨rfl, Below.refl _ _⟩
end Go.Proofs.YtmpegkojencbjaaDoor
/- School: join. -/
namespace Go.Proofs.YtmpegkojencbjaaDoor
open Go Go.RowKit Go.Shelf
set_option maxHeartbeats 2000000
set_option maxRecDepth 100000
theorem EdR.ext {w w' : World} {A : Option Addr} {l : List Ed} (h : EdR w w.heap.size A l) (hb : Below w.heap.size w w') : EdR w' w'.heap.size A l := (ER.below h hb (Nat.le_refl _)).more hb.size
/-- what both say -/
def jnL (l m : List Ed) : List Ed := if l.length = 0 then m else l
def jnB (l m : List Ed) : Bool := decide (l.length = 0) || (decide (m.length = 0) || decide (l = m))
theorem join_any (A B : Option Addr) (c d : Nat) (l m : List Ed) (w : World) (hl : l.length ≤ maxLen) (hm : m.length ≤ maxLen) (hA : EdR w w.heap.size A l) (hB : EdR w w.heap.size B m) :
    Calls Tryd.prog 54 #[.slice A l.length c, .slice B m.length d] w fun e w' => ∃ A' c', e = .returned (.tuple #[.slice A' (jnL l m).length c', .bool (jnB l m)]) ∧ EdR w' w'.heap.size A' (jnL l m) ∧ Below w.heap.size w w' := by
  have HE := hide (equalE_any A B c d l m w hl hA hB)
  have HA := hide hA
  have HB := hide hB
  unfold maxLen at hl hm
  clear hA hB
  unfold jnL jnB
  by_cases h0 : l.length = 0
  · rw [if_pos h0, decide_eq_true h0, Bool.true_or]
    rw [h0] at HE ⊢
    clear h0 hl
    go_enter Tryd.func54, Tryd.ntmps54
    go_wp2_with fail
    go_ret2
    exact ⟨B, d, rfl, HB.out, Below.refl _ _⟩
  · rw [if_neg h0, decide_eq_false h0, Bool.false_or]
    have h0' : ¬ (l.length : Int) = 0 := by omega
    generalize l.length = n at *
    by_cases h1 : m.length = 0
    · rw [decide_eq_true h1, Bool.true_or]
      rw [h1] at HE ⊢
      clear hm h1
      go_enter Tryd.func54, Tryd.ntmps54
      go_wp2_with fail
      go_ret2
      exact ⟨A, c, rfl, HA.out, Below.refl _ _⟩
    · rw [decide_eq_false h1, Bool.false_or]
      have h1' : ((m.length : Int) == 0) = false := by simpa using h1
      generalize m.length = n2 at *
      generalize decide (l = m) = bb at *
      go_enter Tryd.func54, Tryd.ntmps54
      go_wp2_with fail
      refine HE.out.mono ?_
      rintro e w2 ⟨rfl, hb2⟩
      go_wp2_with fail
      go_ret2
      exact ⟨A, c, rfl, HA.out.ext hb2, hb2⟩
end Go.Proofs.YtmpegkojencbjaaDoor
/- School: slices.Grow and slices.Concat at lists of edits. -/
namespace Go.Proofs.YtmpegkojencbjaaDoor
open Go Go.RowKit Go.Shelf
set_option maxHeartbeats 2000000
set_option maxRecDepth 100000
theorem run_append_none0 {P : Program} {w : World} {base : Nat} (t ty e : TypeId) (i : TypeInfo) (size : Nat) (ht : P.underlying t = some (.slice e)) (hi : P.info? e = some i)
    (v : Value) (n c : Nat) (xs : List Value) (hown : w.ownsRow base e size v n xs) :
    (Builtin.append_ #[t, t] ty #[v, .slice none 0 c]).run P w = .ok v w := by
  rcases hown.2 with ⟨rfl, rfl⟩ | ⟨g, cap, cur, rfl, _, _, hnc, _⟩
  · simp [Builtin.append_, run_underlying ht, sizeOf, typeInfo, hi, Builtin.lenOf, Builtin.firstCells]
  · simp [Builtin.append_, run_underlying ht, sizeOf, typeInfo, hi, Builtin.lenOf, Builtin.firstCells, hnc, storeCells]
/-- a list of edits is appended -/
theorem OwnE.pushes {W : World} {base : Nat} {v : Value} {l : List Ed} (h : OwnE W base v l) (A : Option Addr) (c : Nat) (m : List Ed) (hA : EdR W W.heap.size A m) (hl : l.length + m.length ≤ 1000000) (hb : base ≤ W.heap.size) :
    ∃ v' w', (Builtin.append_ #[26, 26] 26 #[v, .slice A m.length c]).run Tryd.prog W = .ok v' w' ∧ OwnE w' base v' (l ++ m) ∧ W.grownBy w' v.ownBlock := by
  obtain ⟨i0, hi, hz0, hz1, hz2⟩ := info_parts info_edit
  cases A with
  | none =>
    have hm : m = [] := by
      rcases hm : m with _ | ⟨x, m⟩
      · rfl
      · exfalso
        obtain ⟨b, off, hA, -⟩ := hA (by rw [hm]; simp)
        cases hA
    subst hm
    refine ⟨v, W, run_append_none0 (P := Tryd.prog) _ _ 86 i0 4 Tryd.underlying26 hi v l.length c (cellsE l) h, by simpa using h, World.grownBy.refl _ _⟩
  | some a =>
    have hcells : ∀ j u, (cellsE m)[j]? = some u → W.cell? (a.add j) = some u := by
      intro j u hj
      have hlt : j < m.length * 4 := by
        have := (List.getElem?_eq_some_iff.1 hj).1
        rwa [cellsE_len] at this
      obtain ⟨b, off, hA', -, hc⟩ := hA (by omega)
      injection hA' with hA'
      subst hA'
      have hk : j / 4 < m.length := by omega
      have hi4 : j % 4 < 4 := by omega
      have e1 : j / 4 * 4 + j % 4 = j := by omega
      have e2 := cellsE_at m (j / 4) (j % 4) hk hi4
      rw [e1, hj] at e2
      have e3 := hc (j / 4) (j % 4) hk hi4
      rw [show off + j / 4 * 4 + j % 4 = off + j by omega, ← e2] at e3
      have e4 : ((⟨b, off, none⟩ : Addr).add j) = ⟨b, off + j, none⟩ := by simp [Addr.add]
      rw [e4]
      exact e3
    obtain ⟨v', w', hr, h2, h3, -⟩ := run_append_own (P := Tryd.prog) (w := W) base 26 26 86 i0 _ 4 48 Tryd.underlying26 hi hz0 hz1 hz2 rfl (by decide) v l.length (cellsE l) h
      a m.length c (cellsE m) (cellsE_len m) hcells (cellsE_one m) (by unfold maxLen; omega) (by omega) hb
    refine ⟨v', w', hr, ?_, h3⟩
    unfold OwnE
    rw [cellsE_append, List.length_append]
    exact h2
theorem run_grow (w : World) (n : Nat) (h0 : 0 < n) (hn : n ≤ 1000000) :
    ∃ cap cur, (Builtin.append_ #[26, 3] 26 #[.slice none 0 0, .int .i64 n]).run Tryd.prog w = .ok (.slice (some ⟨w.heap.size, 0, none⟩) n cap) (w.drew.alloc (.cells cur 86)) ∧ cap ≤ maxLen ∧ cur.size = cap * 4 := by
  obtain ⟨i0, hi, hz0, hz1, hz2⟩ := info_parts info_edit
  have hle := grownCap_ge w n 0 86
  have h := Lib.run_append_nil_zeros (P := Tryd.prog) w 26 3 26 86 i0 _ .i64 .i64 Tryd.underlying26 Tryd.underlying3 hi hz0 n h0 (by rw [hz1]; decide) (by omega) (by rw [hz2]; omega)
  refine ⟨_, _, h, grownCap_le_maxLen w n 0 _ (by unfold maxLen; omega), ?_⟩
  rw [Array.size_append, size_zeroCells, size_zeroCells]
  show n * 4 + (_ - n) * 4 = _
  omega
theorem growE_any (n : Nat) (w : World) (hn : n ≤ 1000000) :
    Calls Tryd.prog 78 #[.slice none 0 0, .int .i64 n] w fun e w' => ∃ v, e = .returned v ∧ OwnE w' w.heap.size v [] ∧ Below w.heap.size w w' := by
  have h1 : ¬ ((n : Int) < 0) := by omega
  by_cases h0 : 0 < n
  · obtain ⟨cap, cur, hr, hc2, hsz⟩ := run_grow w n h0 hn
    have HR := hide hr
    have hO : OwnE (w.drew.alloc (.cells cur 86)) w.heap.size (.slice (some ⟨w.heap.size, 0, none⟩) 0 cap) [] :=
      World.ownsRow_made w.drew _ cap (Nat.le_refl _) hc2 hsz
    have hB : Below w.heap.size w (w.drew.alloc (.cells cur 86)) := (Below.refl w.heap.size w).drew.alloc (Nat.le_refl _) _
    have HO := hide (And.intro hO hB)
    unfold maxLen at hc2
    clear hr hO hB hsz
    generalize (w.drew.alloc (.cells cur 86)) = w1 at HR HO
    have h4 : (0 : Int) < (n : Int) := by omega
    have h2 : IntKind.i64.wrap ((n : Int) - 0) = (n : Int) := by rw [Int.sub_zero]; exact IntWalk.i64_in _ (by omega)
    go_enter Tryd.func78, Tryd.ntmps78
    go_wp2_with (at_builtin; refine Lib.wpList_append_run _ rfl _ _ _ _ rfl _ _ rfl rfl _ _ HR.out ?_)
    go_ret
    exact ⟨_, rfl, HO.out.1, HO.out.2⟩
  · obtain rfl : n = 0 := by omega
    go_enter Tryd.func78, Tryd.ntmps78
    go_wp2_with fail
    go_ret
    exact ⟨_, rfl, OwnE.nil _ _, Below.refl _ _⟩
/-- the first n lists, one behind another -/
def flatE (l : Nat → List Ed) : Nat → List Ed
  | 0 => []
  | n + 1 => flatE l n ++ l n
theorem flatE_len (l : Nat → List Ed) (h : ∀ k, (l k).length ≤ 100) : ∀ n, (flatE l n).length ≤ n * 100
  | 0 => by simp [flatE]
  | n + 1 => by have := flatE_len l h n; have := h n; show (flatE l n ++ l n).length ≤ _; rw [List.length_append]; omega
theorem concatE_any (A : Option Addr) (n c : Nat) (ra : Nat → Option Addr) (rc : Nat → Nat) (l : Nat → List Ed) (w : World) (hn : n ≤ 1000) (hl : ∀ k, (l k).length ≤ 100)
    (hs : ER w w.heap.size 1 A n fun k _ => .slice (ra k) (l k).length (rc k)) (hr : ∀ k, k < n → EdR w w.heap.size (ra k) (l k)) :
    Calls Tryd.prog 55 #[.slice A n c] w fun e w' => ∃ v, e = .returned v ∧ OwnE w' w.heap.size v (flatE l n) ∧ Below w.heap.size w w' := by
  have HS := hide hs
  have HR := hide hr
  have HL := hide hl
  have HFL := hide (flatE_len l hl)
  clear hs hr hl
  go_enter Tryd.func55, Tryd.ntmps55
  go_upto_region 3 with fail
  go_loopw [3, 11] (fun a i wr => ∃ k : Nat, k ≤ n ∧ i = .int .i64 k ∧ a = .int .i64 (flatE l k).length ∧ Below w.heap.size w wr) (fun _ i _ => n - (intOf i).toNat)
  case atStart => exact ⟨0, Nat.zero_le _, rfl, rfl, Below.refl _ _⟩
  case round =>
    obtain ⟨k, hk, rfl, rfl, hB⟩ := hrel
    have HBW := hide hB
    clear hB
    by_cases hlt : k < n
    · -- BEGIN1
      have hlt' : (k : Int) < (n : Int) := by omega
      obtain ⟨b, off, rfl, hb, hc⟩ := VR1.at_ (ER.below HS.out HBW.out (Nat.le_refl _)) hlt
      have f1 := HFL.out k
      have f2 := HL.out k
      have f3 : IntKind.i64.wrap (((flatE l k).length : Int) + ((l k).length : Int)) = ((flatE l k).length : Int) + ((l k).length : Int) := IntWalk.i64_in _ (by omega)
      have f4 : ¬ ((flatE l k).length : Int) + ((l k).length : Int) < 0 := by omega
      go_wp2_with fail
      go_roundw
      case rel => exact ⟨k + 1, by omega, by go_num, by simp [flatE], HBW.out⟩
      case measure => simp [intOf]; omega
      -- END1
    · -- BEGIN2
      obtain rfl : k = n := by omega
      have hnl : ¬ (k : Int) < (k : Int) := by omega
      have f1 := HFL.out k
      have HG := hide (growE_any (flatE l k).length wr (by omega))
      go_wp2_with fail
      refine HG.out.mono ?_
      rintro e w2 ⟨v2, rfl, ho2, hb2⟩
      have HO2 := hide (ho2.low HBW.out.size)
      have HB2 := hide (HBW.out.trans (hb2.mono HBW.out.size))
      clear ho2 hb2
      go_upto_region 11 with fail
      go_loopw [6, 27] (fun a i wr => ∃ (j : Nat) (v : Value), j ≤ k ∧ i = .int .i64 j ∧ a = v ∧ OwnE wr w.heap.size v (flatE l j) ∧ Below w.heap.size w wr) (fun _ i _ => k - (intOf i).toNat)
      case atStart => exact ⟨0, _, Nat.zero_le _, rfl, rfl, HO2.out, HB2.out⟩
      case round =>
        obtain ⟨j, v, hj, rfl, rfl, ho, hB⟩ := hrel
        have HO := hide ho
        have HBV := hide hB
        clear ho hB
        by_cases hlt : j < k
        · -- BEGIN3
          have hlt' : (j : Int) < (k : Int) := by omega
          obtain ⟨b, off, rfl, hb, hc⟩ := VR1.at_ (ER.below HS.out HBV.out (Nat.le_refl _)) hlt
          have f2 := HL.out j
          have f3 := HFL.out j
          obtain ⟨v3, w3, hrun, ho3, hg3⟩ := HO.out.pushes (ra j) (rc j) (l j) ((ER.below (HR.out j hlt) HBV.out (Nat.le_refl _)).more HBV.out.size) (by omega) HBV.out.size
          have HRUN := hide hrun
          have HN := hide (And.intro ho3 (HBV.out.grown hg3 HBV.out.size (fun i hi => (World.ownsRow.lt HO.out i hi).1)))
          clear hrun ho3 hg3
          go_wp2_with (at_builtin; refine wpList_append_run rfl (.tmp 31) (.tmp 32) 26 rfl rfl rfl HRUN.out ?_)
          go_roundw
          case rel => exact ⟨j + 1, v3, by omega, by go_num, rfl, HN.out.1, HN.out.2⟩
          case measure => simp [intOf]; omega
          -- END3
        · -- BEGIN4
          obtain rfl : j = k := by omega
          have hnl : ¬ (j : Int) < (j : Int) := by omega
          go_wp2_with fail
          go_ret
          exact ⟨_, rfl, HO.out, HBV.out⟩
          -- END4
      -- END2
end Go.Proofs.YtmpegkojencbjaaDoor
/- School: what edits do at each word: the lists of places, own and apart. -/
namespace Go.Proofs.YtmpegkojencbjaaDoor
open Go Go.RowKit Go.Shelf
set_option maxHeartbeats 2000000
set_option maxRecDepth 100000
/-- the list to which an edit goes -/
def plq (e : Ed) : Nat := e.at_.toNat * 2 + if e.ki = 3 then 0 else 1
def plL (l : List Ed) (q : Nat) : List Ed := l.filter fun e => decide (plq e = q)
theorem plL_take (l : List Ed) (k : Nat) (hk : k < l.length) {e : Ed} (he : l.getD k e0 = e) (q : Nat) : plL (l.take (k + 1)) q = if plq e = q then plL (l.take k) q ++ [e] else plL (l.take k) q := by
  have h1 : l.take (k + 1) = l.take k ++ [e] := by
    rw [List.take_succ_eq_append_getElem hk]
    rw [List.getD_eq_getElem?_getD, List.getElem?_eq_getElem hk] at he
    rw [← he]; rfl
  unfold plL
  rw [h1, List.filter_append]
  by_cases h : plq e = q
  · rw [if_pos h]; simp [h]
  · rw [if_neg h]; simp [h]
theorem plL_len (l : List Ed) (q : Nat) : (plL l q).length ≤ l.length := List.length_filter_le _ _
/-- the lists at each place: one's own, and apart -/
structure PL (w W : World) (D n : Nat) (v : Nat → Value) (f : Nat → List Ed) : Prop where
  below : Below w.heap.size w W
  lo : w.heap.size ≤ D
  blk : Blk W D 96 (rowV (n * 2) v)
  own : ∀ q, q < n * 2 → OwnE W (D + 1) (v q) (f q)
  ap : ∀ q r, q < n * 2 → r < n * 2 → q ≠ r → (v q).ownBlock = none ∨ (v q).ownBlock ≠ (v r).ownBlock
section
variable {w W W' : World} {D n : Nat} {v : Nat → Value} {f : Nat → List Ed}
theorem PL.ext (h : PL w W D n v f) (hb : Below W.heap.size W W') : PL w W' D n v f :=
  ⟨h.below.trans (hb.mono h.below.size), h.lo, h.blk.ext hb, fun q hq => (h.own q hq).ext hb, h.ap⟩
theorem PL.congr {f' : Nat → List Ed} (h : PL w W D n v f) (hf : ∀ q, q < n * 2 → f q = f' q) : PL w W D n v f' :=
  ⟨h.below, h.lo, h.blk, fun q hq => hf q hq ▸ h.own q hq, h.ap⟩
theorem PL.put (h : PL w W D n v f) (e : Ed) (q : Nat) (hq : q < n * 2) (hm : (f q).length ≤ 1000000) :
    ∃ v' w', (Builtin.append_ #[26, 26] 26 #[v q, .slice (some ⟨W.heap.size, 0, none⟩) 1 1]).run Tryd.prog (W.alloc (.cells #[.int .i64 e.ki, .int .i64 e.at_, .string e.old, .string e.new] 86)) = .ok v' w' ∧
      (W.alloc (.cells #[.int .i64 e.ki, .int .i64 e.at_, .string e.old, .string e.new] 86)).grownBy w' (v q).ownBlock ∧ Blk w' D 96 (rowV (n * 2) v) ∧ Below (D + 1) W w' ∧
      PL w (w'.setCell ⟨D, q, none⟩ v') D n (upd v q v') (upd f q (f q ++ [e])) := by
  obtain ⟨i0, hi, hz0, hz1, hz2⟩ := info_parts info_edit
  have hown := h.own q hq
  have hD := h.blk.lt
  obtain ⟨v', w', hr, h2, h3, -, h4⟩ := run_append_own_at (P := Tryd.prog) (w := W.alloc (.cells #[.int .i64 e.ki, .int .i64 e.at_, .string e.old, .string e.new] 86)) (D + 1) 26 26 86 i0 _ 4 48 Tryd.underlying26 hi hz0 hz1 hz2 rfl (by decide) (v q) (f q).length (cellsE (f q)) (World.ownsRow.alloc hown _)
    ⟨W.heap.size, 0, none⟩ 1 1 (edC e) rfl (cell_four_new _ _ _ _ _ _) (by have := cellsE_one [e]; simpa [cellsE] using this) (by unfold maxLen; omega) (by omega) (by simp; omega)
  have hlt := World.ownsRow.lt hown
  have hBA : Below W.heap.size W (W.alloc (.cells #[.int .i64 e.ki, .int .i64 e.at_, .string e.old, .string e.new] 86)) := (Below.refl _ _).alloc (Nat.le_refl _) _
  have hB1 : Below (D + 1) W w' := (hBA.mono (by omega)).grown h3 (by have := hBA.size; omega) (fun k hk => (hlt k hk).1)
  have hblk : Blk w' D 96 (rowV (n * 2) v) := (h.blk.ext hBA).grown h3 (fun e => by have := (hlt D e.symm).1; omega)
  refine ⟨v', w', hr, h3, hblk, hB1, ⟨h.below.trans ((hB1.mono (by have := h.lo; omega)).trans ((Below.refl _ _).setCell h.lo _)), h.lo, ?_, fun r hr' => ?_, fun r s hr' hs hne => ?_⟩⟩
  · rw [← rowV_set]; exact hblk.set_ q v'
  · by_cases e1 : r = q
    · subst e1
      rw [upd_same, upd_same]
      refine ownsRow_setCell_below (a := ⟨D, r, none⟩) ?_ (by simp) v'
      unfold OwnE at *
      rw [cellsE_append, List.length_append]
      simpa [cellsE] using h2
    · rw [upd_ne _ _ e1, upd_ne _ _ e1]
      exact ownsRow_setCell_below (a := ⟨D, q, none⟩) (((h.own r hr').ext hBA).kept h3 (h.ap r q hr' hq e1)) (by simp) v'
  · have hsz : ∀ r, r < n * 2 → ∀ k, (v r).ownBlock = some k → k < W.heap.size := fun r hr k hk => (World.ownsRow.lt (h.own r hr) k hk).2
    have hne2 : ∀ r, r < n * 2 → r ≠ q → (v'.ownBlock = none ∨ v'.ownBlock ≠ (v r).ownBlock) ∧ ((v r).ownBlock = none ∨ (v r).ownBlock ≠ v'.ownBlock) := fun r hr hrq => by
      rcases h4 with h4 | h4
      · rw [h4]; exact ⟨h.ap q r hq hr (Ne.symm hrq), h.ap r q hr hq hrq⟩
      · have hx : (v r).ownBlock ≠ v'.ownBlock := fun e => by
          rw [h4] at e
          have := hsz r hr _ e
          have := hBA.size
          omega
        exact ⟨.inr (Ne.symm hx), .inr hx⟩
    by_cases e1 : r = q
    · subst e1
      rw [upd_same, upd_ne _ _ (Ne.symm hne)]
      exact (hne2 s hs (Ne.symm hne)).1
    · rw [upd_ne _ _ e1]
      by_cases e2 : s = q
      · subst e2
        rw [upd_same]
        exact (hne2 r hr' e1).2
      · rw [upd_ne _ _ e2]
        exact h.ap r s hr' hs hne
end
end Go.Proofs.YtmpegkojencbjaaDoor
/- School: places, walked. -/
namespace Go.Proofs.YtmpegkojencbjaaDoor
open List (getElem_toArray getElem_cons_zero getElem_cons_succ setIfInBounds_toArray set_cons_zero set_cons_succ)
open Go Go.RowKit Go.Shelf
set_option maxHeartbeats 4000000
set_option maxRecDepth 100000
theorem info_place : (Tryd.prog.info? 96).map (fun i => (i.zero, i.size, i.bytes)) = some (some (.agg #[.slice none 0 0, .slice none 0 0]), 2, 48) := by kernel_rfl
theorem rowV_places (n : Nat) : madeCells (Value.agg #[.slice none 0 0, .slice none 0 0]).cells (n * 2) = rowV (n * 2) (fun _ => .slice none 0 0) := by
  apply Array.ext_getElem?
  intro j
  simp only [rowV, madeCells, Array.getElem?_map, Array.getElem?_range, List.getElem?_toArray, List.getElem?_map]
  by_cases hj : j < n * 2
  · have h2 : j % 2 = 0 ∨ j % 2 = 1 := by omega
    rcases h2 with h2 | h2 <;> simp [hj, Value.cells, h2]
  · simp [hj]
def PlPost (w : World) (n : Nat) (l : List Ed) (e : Ending) (w' : World) : Prop :=
  ∃ D v, e = .returned (.slice (some ⟨D, 0, none⟩) n n) ∧ PL w w' D n v (plL l)
theorem places_any (A : Option Addr) (c n : Nat) (l : List Ed) (w : World) (hn : n ≤ 1000) (hl : l.length ≤ 10000) (hA : EdR w w.heap.size A l) (hb : ∀ e ∈ l, 0 ≤ e.at_ ∧ e.at_ ≤ n) :
    Calls Tryd.prog 53 #[.int .i64 n, .slice A l.length c] w (PlPost w (n + 1) l) := by
  have HA := hide hA
  have HB := hide hb
  clear hA hb
  obtain ⟨L, hL⟩ : ∃ L, l.length = L := ⟨_, rfl⟩
  obtain ⟨N, hN⟩ : ∃ N, n + 1 = N := ⟨_, rfl⟩
  have HLN := hide (And.intro hL hN)
  unfold PlPost
  rw [hL] at hl ⊢
  rw [hN]
  have wn : IntKind.i64.wrap ((n : Int) + 1) = (N : Int) := by rw [IntWalk.i64_in _ (by omega)]; omega
  have N0 : (0 : Int) ≤ (N : Int) := by omega
  have N1 : N ≤ 1001 := by omega
  obtain ⟨i0, hi, hz0, hz1, hz2⟩ := info_parts info_place
  have gl := run_make_rowN (P := Tryd.prog) 93 96 i0 _ Tryd.underlying93 hi hz0 .i64 .i64 N N (Nat.le_refl _) (by rw [hz2]; omega) (by omega) w
  rw [hz1, rowV_places] at gl
  have GL := hide gl
  have hmax : N ≤ 9223372036854775807 := by omega
  clear hL hN hi hz0 hz1 hz2 gl
  have gl := GL.out
  go_enter Tryd.func53, Tryd.ntmps53
  go_wp2_with fail
  have hP0 : Hid (PL w (w.alloc (.cells (rowV (N * 2) fun _ => .slice none 0 0) 96)) w.heap.size N (fun _ => .slice none 0 0) (plL (l.take 0))) := hide ⟨(Below.refl _ _).alloc (Nat.le_refl _) _, Nat.le_refl _, Blk.new _ _ _, fun q _ => OwnE.nil _ _, fun q r _ _ _ => .inl rfl⟩
  generalize (w.alloc (.cells (rowV (N * 2) fun _ => .slice none 0 0) 96)) = W0 at hP0 ⊢
  clear gl GL
  go_loopw [14] (fun i wr => ∃ (k : Nat) (v : Nat → Value), k ≤ L ∧ i = .int .i64 k ∧ Hid (PL w wr w.heap.size N v (plL (l.take k)))) (fun i _ => L - (intOf i).toNat)
  case atStart => exact ⟨0, _, Nat.zero_le _, rfl, hP0⟩
  case round =>
    obtain ⟨k, v, hk, rfl, HP⟩ := hrel
    by_cases hlt : k < L
    · -- BEGIN1
      have hlt' : (k : Int) < (L : Int) := by omega
      have k0 : (0 : Int) ≤ (k : Int) := by omega
      obtain ⟨e, he⟩ : ∃ e, l.getD k e0 = e := ⟨_, rfl⟩
      have hmem : e ∈ l := by
        rw [← he, List.getD_eq_getElem?_getD, List.getElem?_eq_getElem (by rw [HLN.out.1]; exact hlt)]
        exact List.getElem_mem _
      obtain ⟨hat0, hat1⟩ := HB.out e hmem
      obtain ⟨ea, ho, rfl, hea, c0, c1, c2, c3⟩ := HA.out.at_ (by rw [HLN.out.1]; exact hlt) he
      have HE := hide he
      clear he hmem
      have c0' := (HP.out.below.cell (p := ⟨ea, ho + k * 4, none⟩) hea).trans c0
      have c1' := (HP.out.below.cell (p := ⟨ea, ho + k * 4 + 1, none⟩) hea).trans c1
      have c2' := (HP.out.below.cell (p := ⟨ea, ho + k * 4 + 2, none⟩) hea).trans c2
      have c3' := (HP.out.below.cell (p := ⟨ea, ho + k * 4 + 3, none⟩) hea).trans c3
      clear c0 c1 c2 c3
      obtain ⟨ki, at_, old, new⟩ := e
      dsimp only at c0' c1' c2' c3' hat0 hat1
      obtain ⟨a, rfl⟩ : ∃ a : Nat, at_ = (a : Int) := ⟨at_.toNat, by omega⟩
      have a0 : (0 : Int) ≤ (a : Int) := by omega
      have a1 : (a : Int) < (N : Int) := by have := HLN.out.2; omega
      go_upto_region 5 with fail
      have HP1 := hide (HP.out.ext ((Below.refl _ _).alloc (Nat.le_refl _) (.cells #[.int .i64 ki, .int .i64 a, .string old, .string new] 86)))
      have E1 := hide (Blk.new wr 86 #[.int .i64 ki, .int .i64 a, .string old, .string new])
      have hsz : ∀ q, q < N * 2 → ∀ j, (v q).ownBlock = some j → j < wr.heap.size := fun q hq j hj => (World.ownsRow.lt (HP.out.own q hq) j hj).2
      have HSZ := hide hsz
      obtain ⟨g, hg⟩ : ∃ g, wr.heap.size = g := ⟨_, rfl⟩
      rw [hg] at E1 HSZ ⊢
      clear hsz c0' c1' c2' c3' HP
      generalize (wr.alloc (.cells #[.int .i64 ki, .int .i64 a, .string old, .string new] 86)) = w1 at HP1 E1 ⊢
      obtain ⟨g0, g1, g2, g3, g4⟩ := blk4 E1.out
      have hst : IntKind.i64.wrap ((k : Int) + 1) = ((k + 1 : Nat) : Int) := by rw [IntWalk.i64_in _ (by omega)]; omega
      have aN : a < N := by omega
      by_cases h3 : ki = 3
      · subst h3
        have hpq : plq ⟨3, a, old, new⟩ = a * 2 := by simp [plq]
        have q2 : a * 2 < N * 2 := by omega
        go_upto_region 7 with fail
        have HP2 := hide (HP1.out.ext (Below.refl w1.heap.size w1).drew)
        have E2 := hide E1.out.drew
        have hlen : (plL (l.take k) (a * 2)).length ≤ 1000000 := by
          have h1 := plL_len (l.take k) (a * 2)
          have h2 : (l.take k).length ≤ L := by rw [List.length_take, HLN.out.1]; omega
          omega
        obtain ⟨v', w', hrun, hgr, hblk, hbd, hPL⟩ := HP2.out.put ⟨3, a, old, new⟩ (a * 2) q2 hlen
        obtain ⟨A', c', hv'⟩ := own_shape (hPL.own (a * 2) q2)
        rw [upd_same] at hv'
        subst hv'
        dsimp only at hrun hgr
        have E3 := E2.out.alloc (.cells #[.int .i64 3, .int .i64 a, .string old, .string new] 86)
        have E4 := E3.grown hgr (fun e => by have := HSZ.out (a * 2) q2 g e.symm; omega)
        have B3 := HP2.out.blk.alloc (.cells #[.int .i64 3, .int .i64 a, .string old, .string new] 86)
        have l0 := HP2.out.blk.lt
        have l1 := hblk.lt
        have fz := hblk.frozen (a * 2)
        have HS0 : Hid (w1.drew.cell? ⟨w.heap.size, a * 2, none⟩ = some (v (a * 2)) ∧ w1.drew.cell? ⟨g, 0, none⟩ = some (.int .i64 3) ∧ w1.drew.cell? ⟨g, 1, none⟩ = some (.int .i64 a) ∧ w1.drew.cell? ⟨g, 2, none⟩ = some (.string old) ∧ w1.drew.cell? ⟨g, 3, none⟩ = some (.string new)) := hide ⟨by rw [HP2.out.blk.cell, rowV_get _ _ q2], (blk4 E2.out).2⟩
        have HS1 : Hid ((w1.drew.alloc (.cells #[.int .i64 3, .int .i64 a, .string old, .string new] 86)).cell? ⟨w.heap.size, a * 2, none⟩ = some (v (a * 2)) ∧ (w1.drew.alloc (.cells #[.int .i64 3, .int .i64 a, .string old, .string new] 86)).cell? ⟨g, 0, none⟩ = some (.int .i64 3) ∧ (w1.drew.alloc (.cells #[.int .i64 3, .int .i64 a, .string old, .string new] 86)).cell? ⟨g, 1, none⟩ = some (.int .i64 a) ∧ (w1.drew.alloc (.cells #[.int .i64 3, .int .i64 a, .string old, .string new] 86)).cell? ⟨g, 2, none⟩ = some (.string old) ∧ (w1.drew.alloc (.cells #[.int .i64 3, .int .i64 a, .string old, .string new] 86)).cell? ⟨g, 3, none⟩ = some (.string new)) := hide ⟨by rw [B3.cell, rowV_get _ _ q2], (blk4 E3).2⟩
        have HS2 : Hid (w'.cell? ⟨w.heap.size, a * 2, none⟩ = some (v (a * 2)) ∧ w'.cell? ⟨g, 0, none⟩ = some (.int .i64 3) ∧ w'.cell? ⟨g, 1, none⟩ = some (.int .i64 a) ∧ w'.cell? ⟨g, 2, none⟩ = some (.string old) ∧ w'.cell? ⟨g, 3, none⟩ = some (.string new)) := hide ⟨by rw [hblk.cell, rowV_get _ _ q2], (blk4 E4).2⟩
        have HRUN := hide hrun
        have HPL := hide hPL
        clear hrun hPL E3 E4 B3 g0 g1 g2 g3 g4 hgr hblk hbd HP1 HP2 E1 E2 hlen
        refine wp_region_K (pickS [4, 5] (fun W : World => W.cell? ⟨w.heap.size, a * 2, none⟩ = some (v (a * 2)) ∧ W.cell? ⟨g, 0, none⟩ = some (.int .i64 3) ∧ W.cell? ⟨g, 1, none⟩ = some (.int .i64 a) ∧ W.cell? ⟨g, 2, none⟩ = some (.string old) ∧ W.cell? ⟨g, 3, none⟩ = some (.string new)) (fun _ => True)) (by kernel_rfl) ?_
        generalize w1.drew = wd at HS0 HS1 HRUN ⊢
        refine wpAnyK_take 0 (v := ?_) (by first | exact hF | exact wideFn) trivial rfl (by kernel_rfl) (by kernel_rfl) (by kernel_rfl) (by kernel_rfl) rfl ?_ (by first | exact fun _ _ _ h => h | exact fun _ _ _ h => hQ2 _ _ _ _ _ h) ?_
        rotate_left
        · intro W hSW
          replace hSW : True := hSW
          simp only [getElem_toArray, getElem_cons_zero, getElem_cons_succ]
          (try dsimp only at hSW)
          go_simp
          with_reducible rfl
        (try simp only [getElem_toArray, getElem_cons_zero, getElem_cons_succ, Act.put, setIfInBounds_toArray, set_cons_zero, set_cons_succ])
        refine wpAnyK_take 1 (v := ?_) (by first | exact hF | exact wideFn) trivial rfl (by kernel_rfl) (by kernel_rfl) (by kernel_rfl) (by kernel_rfl) rfl ?_ (by first | exact fun _ _ _ h => h | exact fun _ _ _ h => hQ2 _ _ _ _ _ h) ?_
        rotate_left
        · intro W hSW
          replace hSW : True := hSW
          simp only [getElem_toArray, getElem_cons_zero, getElem_cons_succ]
          (try dsimp only at hSW)
          go_simp
          with_reducible rfl
        (try simp only [getElem_toArray, getElem_cons_zero, getElem_cons_succ, Act.put, setIfInBounds_toArray, set_cons_zero, set_cons_succ])
        refine wpAnyK_take 2 (v := ?_) (by first | exact hF | exact wideFn) trivial rfl (by kernel_rfl) (by kernel_rfl) (by kernel_rfl) (by kernel_rfl) rfl ?_ (by first | exact fun _ _ _ h => h | exact fun _ _ _ h => hQ2 _ _ _ _ _ h) ?_
        rotate_left
        · intro W hSW
          replace hSW : True := hSW
          simp only [getElem_toArray, getElem_cons_zero, getElem_cons_succ]
          (try dsimp only at hSW)
          go_simp
          with_reducible rfl
        (try simp only [getElem_toArray, getElem_cons_zero, getElem_cons_succ, Act.put, setIfInBounds_toArray, set_cons_zero, set_cons_succ])
        refine wpAnyK_take 3 (v := ?_) (by first | exact hF | exact wideFn) trivial rfl (by kernel_rfl) (by kernel_rfl) (by kernel_rfl) (by kernel_rfl) rfl ?_ (by first | exact fun _ _ _ h => h | exact fun _ _ _ h => hQ2 _ _ _ _ _ h) ?_
        rotate_left
        · intro W hSW
          replace hSW : True := hSW
          simp only [getElem_toArray, getElem_cons_zero, getElem_cons_succ]
          (try dsimp only at hSW)
          go_simp
          with_reducible rfl
        (try simp only [getElem_toArray, getElem_cons_zero, getElem_cons_succ, Act.put, setIfInBounds_toArray, set_cons_zero, set_cons_succ])
        refine wpAnyK_take 4 (v := ?_) (by first | exact hF | exact wideFn) (And.intro HS0.out trivial) rfl (by kernel_rfl) (by kernel_rfl) (by kernel_rfl) (by kernel_rfl) rfl ?_ (by first | exact fun _ _ _ h => h | exact fun _ _ _ h => hQ2 _ _ _ _ _ h) ?_
        rotate_left
        · intro W hSW
          replace hSW : ((W.cell? ⟨w.heap.size, a * 2, none⟩ = some (v (a * 2)) ∧ W.cell? ⟨g, 0, none⟩ = some (.int .i64 3) ∧ W.cell? ⟨g, 1, none⟩ = some (.int .i64 a) ∧ W.cell? ⟨g, 2, none⟩ = some (.string old) ∧ W.cell? ⟨g, 3, none⟩ = some (.string new)) ∧ True) := hSW
          simp only [getElem_toArray, getElem_cons_zero, getElem_cons_succ]
          (try dsimp only at hSW)
          go_simp
          with_reducible rfl
        (try simp only [getElem_toArray, getElem_cons_zero, getElem_cons_succ, Act.put, setIfInBounds_toArray, set_cons_zero, set_cons_succ])
        refine wpAnyK_take 5 (v := ?_) (by first | exact hF | exact wideFn) (And.intro HS0.out trivial) rfl (by kernel_rfl) (by kernel_rfl) (by kernel_rfl) (by kernel_rfl) rfl ?_ (by first | exact fun _ _ _ h => h | exact fun _ _ _ h => hQ2 _ _ _ _ _ h) ?_
        rotate_left
        · intro W hSW
          replace hSW : ((W.cell? ⟨w.heap.size, a * 2, none⟩ = some (v (a * 2)) ∧ W.cell? ⟨g, 0, none⟩ = some (.int .i64 3) ∧ W.cell? ⟨g, 1, none⟩ = some (.int .i64 a) ∧ W.cell? ⟨g, 2, none⟩ = some (.string old) ∧ W.cell? ⟨g, 3, none⟩ = some (.string new)) ∧ True) := hSW
          simp only [getElem_toArray, getElem_cons_zero, getElem_cons_succ]
          (try dsimp only at hSW)
          go_simp
          with_reducible rfl
        (try simp only [getElem_toArray, getElem_cons_zero, getElem_cons_succ, Act.put, setIfInBounds_toArray, set_cons_zero, set_cons_succ])
        refine wpAnyK_one 6 rfl (by kernel_rfl) (fun K hK => ?_)
        simp only [getElem_toArray, getElem_cons_zero, getElem_cons_succ]
        go_simp
        refine hK.out _ _ (.inr (pickS_all HS1.out trivial)) ?_
        clear hK K
        (try simp only [getElem_toArray, getElem_cons_zero, getElem_cons_succ, Act.put, setIfInBounds_toArray, set_cons_zero, set_cons_succ])
        refine wpAnyK_one 7 rfl (by kernel_rfl) (fun K hK => ?_)
        rw [if_pos (by rfl)]
        refine wpIn_append_run (.tmp 29) (.tmp 31) 26 (by first | exact hF | exact wideFn) rfl rfl rfl HRUN.out ?_
        refine hK.out _ _ (.inr (pickS_all HS2.out trivial)) ?_
        clear hK K
        (try simp only [getElem_toArray, getElem_cons_zero, getElem_cons_succ, Act.put, setIfInBounds_toArray, set_cons_zero, set_cons_succ])
        refine wpAnyK_take 8 (v := ?_) (by first | exact hF | exact wideFn) trivial rfl (by kernel_rfl) (by kernel_rfl) (by kernel_rfl) (by kernel_rfl) rfl ?_ (by first | exact fun _ _ _ h => h | exact fun _ _ _ h => hQ2 _ _ _ _ _ h) ?_
        rotate_left
        · intro W hSW
          replace hSW : True := hSW
          simp only [getElem_toArray, getElem_cons_zero, getElem_cons_succ]
          (try dsimp only at hSW)
          go_simp
          with_reducible rfl
        (try simp only [getElem_toArray, getElem_cons_zero, getElem_cons_succ, Act.put, setIfInBounds_toArray, set_cons_zero, set_cons_succ])
        refine wpAnyK_take 9 (v := ?_) (by first | exact hF | exact wideFn) trivial rfl (by kernel_rfl) (by kernel_rfl) (by kernel_rfl) (by kernel_rfl) rfl ?_ (by first | exact fun _ _ _ h => h | exact fun _ _ _ h => hQ2 _ _ _ _ _ h) ?_
        rotate_left
        · intro W hSW
          replace hSW : True := hSW
          simp only [getElem_toArray, getElem_cons_zero, getElem_cons_succ]
          (try dsimp only at hSW)
          go_simp
          with_reducible rfl
        (try simp only [getElem_toArray, getElem_cons_zero, getElem_cons_succ, Act.put, setIfInBounds_toArray, set_cons_zero, set_cons_succ])
        have cw := HS2.out.1
        refine wpAnyK_one 10 rfl (by kernel_rfl) (fun K hK => ?_)
        simp only [getElem_toArray, getElem_cons_zero, getElem_cons_succ]
        go_simp
        refine hK.out _ _ (.inr (pickS_need (by kernel_rfl) trivial)) ?_
        clear hK K
        (try simp only [getElem_toArray, getElem_cons_zero, getElem_cons_succ, Act.put, setIfInBounds_toArray, set_cons_zero, set_cons_succ])
        refine wpAnyK_done (by kernel_rfl) ?_
        go_wp2_with fail
        go_roundw
        case rel => exact ⟨k + 1, _, by omega, by go_num, hide (HPL.out.congr (fun r _ => by
          rw [plL_take l k (by rw [HLN.out.1]; exact hlt) HE.out r, hpq]
          by_cases e : r = a * 2
          · rw [e, upd_same, if_pos rfl]
          · rw [upd_ne _ _ e, if_neg (Ne.symm e)]))⟩
        case measure => simp [intOf]; omega
      · have hpq : plq ⟨ki, a, old, new⟩ = a * 2 + 1 := by simp [plq, h3]
        have q2 : a * 2 + 1 < N * 2 := by omega
        go_upto_region 8 with fail
        have HP2 := hide (HP1.out.ext (Below.refl w1.heap.size w1).drew)
        have E2 := hide E1.out.drew
        have hlen : (plL (l.take k) (a * 2 + 1)).length ≤ 1000000 := by
          have h1 := plL_len (l.take k) (a * 2 + 1)
          have h2 : (l.take k).length ≤ L := by rw [List.length_take, HLN.out.1]; omega
          omega
        obtain ⟨v', w', hrun, hgr, hblk, hbd, hPL⟩ := HP2.out.put ⟨ki, a, old, new⟩ (a * 2 + 1) q2 hlen
        obtain ⟨A', c', hv'⟩ := own_shape (hPL.own (a * 2 + 1) q2)
        rw [upd_same] at hv'
        subst hv'
        dsimp only at hrun hgr
        have E3 := E2.out.alloc (.cells #[.int .i64 ki, .int .i64 a, .string old, .string new] 86)
        have E4 := E3.grown hgr (fun e => by have := HSZ.out (a * 2 + 1) q2 g e.symm; omega)
        have B3 := HP2.out.blk.alloc (.cells #[.int .i64 ki, .int .i64 a, .string old, .string new] 86)
        have l0 := HP2.out.blk.lt
        have l1 := hblk.lt
        have fz := hblk.frozen (a * 2 + 1)
        have HS0 : Hid (w1.drew.cell? ⟨w.heap.size, a * 2 + 1, none⟩ = some (v (a * 2 + 1)) ∧ w1.drew.cell? ⟨g, 0, none⟩ = some (.int .i64 ki) ∧ w1.drew.cell? ⟨g, 1, none⟩ = some (.int .i64 a) ∧ w1.drew.cell? ⟨g, 2, none⟩ = some (.string old) ∧ w1.drew.cell? ⟨g, 3, none⟩ = some (.string new)) := hide ⟨by rw [HP2.out.blk.cell, rowV_get _ _ q2], (blk4 E2.out).2⟩
        have HS1 : Hid ((w1.drew.alloc (.cells #[.int .i64 ki, .int .i64 a, .string old, .string new] 86)).cell? ⟨w.heap.size, a * 2 + 1, none⟩ = some (v (a * 2 + 1)) ∧ (w1.drew.alloc (.cells #[.int .i64 ki, .int .i64 a, .string old, .string new] 86)).cell? ⟨g, 0, none⟩ = some (.int .i64 ki) ∧ (w1.drew.alloc (.cells #[.int .i64 ki, .int .i64 a, .string old, .string new] 86)).cell? ⟨g, 1, none⟩ = some (.int .i64 a) ∧ (w1.drew.alloc (.cells #[.int .i64 ki, .int .i64 a, .string old, .string new] 86)).cell? ⟨g, 2, none⟩ = some (.string old) ∧ (w1.drew.alloc (.cells #[.int .i64 ki, .int .i64 a, .string old, .string new] 86)).cell? ⟨g, 3, none⟩ = some (.string new)) := hide ⟨by rw [B3.cell, rowV_get _ _ q2], (blk4 E3).2⟩
        have HS2 : Hid (w'.cell? ⟨w.heap.size, a * 2 + 1, none⟩ = some (v (a * 2 + 1)) ∧ w'.cell? ⟨g, 0, none⟩ = some (.int .i64 ki) ∧ w'.cell? ⟨g, 1, none⟩ = some (.int .i64 a) ∧ w'.cell? ⟨g, 2, none⟩ = some (.string old) ∧ w'.cell? ⟨g, 3, none⟩ = some (.string new)) := hide ⟨by rw [hblk.cell, rowV_get _ _ q2], (blk4 E4).2⟩
        have HRUN := hide hrun
        have HPL := hide hPL
        clear hrun hPL E3 E4 B3 g0 g1 g2 g3 g4 hgr hblk hbd HP1 HP2 E1 E2 hlen
        refine wp_region_K (pickS [4, 5] (fun W : World => W.cell? ⟨w.heap.size, a * 2 + 1, none⟩ = some (v (a * 2 + 1)) ∧ W.cell? ⟨g, 0, none⟩ = some (.int .i64 ki) ∧ W.cell? ⟨g, 1, none⟩ = some (.int .i64 a) ∧ W.cell? ⟨g, 2, none⟩ = some (.string old) ∧ W.cell? ⟨g, 3, none⟩ = some (.string new)) (fun _ => True)) (by kernel_rfl) ?_
        generalize w1.drew = wd at HS0 HS1 HRUN ⊢
        refine wpAnyK_take 0 (v := ?_) (by first | exact hF | exact wideFn) trivial rfl (by kernel_rfl) (by kernel_rfl) (by kernel_rfl) (by kernel_rfl) rfl ?_ (by first | exact fun _ _ _ h => h | exact fun _ _ _ h => hQ2 _ _ _ _ _ h) ?_
        rotate_left
        · intro W hSW
          replace hSW : True := hSW
          simp only [getElem_toArray, getElem_cons_zero, getElem_cons_succ]
          (try dsimp only at hSW)
          go_simp
          with_reducible rfl
        (try simp only [getElem_toArray, getElem_cons_zero, getElem_cons_succ, Act.put, setIfInBounds_toArray, set_cons_zero, set_cons_succ])
        refine wpAnyK_take 1 (v := ?_) (by first | exact hF | exact wideFn) trivial rfl (by kernel_rfl) (by kernel_rfl) (by kernel_rfl) (by kernel_rfl) rfl ?_ (by first | exact fun _ _ _ h => h | exact fun _ _ _ h => hQ2 _ _ _ _ _ h) ?_
        rotate_left
        · intro W hSW
          replace hSW : True := hSW
          simp only [getElem_toArray, getElem_cons_zero, getElem_cons_succ]
          (try dsimp only at hSW)
          go_simp
          with_reducible rfl
        (try simp only [getElem_toArray, getElem_cons_zero, getElem_cons_succ, Act.put, setIfInBounds_toArray, set_cons_zero, set_cons_succ])
        refine wpAnyK_take 2 (v := ?_) (by first | exact hF | exact wideFn) trivial rfl (by kernel_rfl) (by kernel_rfl) (by kernel_rfl) (by kernel_rfl) rfl ?_ (by first | exact fun _ _ _ h => h | exact fun _ _ _ h => hQ2 _ _ _ _ _ h) ?_
        rotate_left
        · intro W hSW
          replace hSW : True := hSW
          simp only [getElem_toArray, getElem_cons_zero, getElem_cons_succ]
          (try dsimp only at hSW)
          go_simp
          with_reducible rfl
        (try simp only [getElem_toArray, getElem_cons_zero, getElem_cons_succ, Act.put, setIfInBounds_toArray, set_cons_zero, set_cons_succ])
        refine wpAnyK_take 3 (v := ?_) (by first | exact hF | exact wideFn) trivial rfl (by kernel_rfl) (by kernel_rfl) (by kernel_rfl) (by kernel_rfl) rfl ?_ (by first | exact fun _ _ _ h => h | exact fun _ _ _ h => hQ2 _ _ _ _ _ h) ?_
        rotate_left
        · intro W hSW
          replace hSW : True := hSW
          simp only [getElem_toArray, getElem_cons_zero, getElem_cons_succ]
          (try dsimp only at hSW)
          go_simp
          with_reducible rfl
        (try simp only [getElem_toArray, getElem_cons_zero, getElem_cons_succ, Act.put, setIfInBounds_toArray, set_cons_zero, set_cons_succ])
        refine wpAnyK_take 4 (v := ?_) (by first | exact hF | exact wideFn) (And.intro HS0.out trivial) rfl (by kernel_rfl) (by kernel_rfl) (by kernel_rfl) (by kernel_rfl) rfl ?_ (by first | exact fun _ _ _ h => h | exact fun _ _ _ h => hQ2 _ _ _ _ _ h) ?_
        rotate_left
        · intro W hSW
          replace hSW : ((W.cell? ⟨w.heap.size, a * 2 + 1, none⟩ = some (v (a * 2 + 1)) ∧ W.cell? ⟨g, 0, none⟩ = some (.int .i64 ki) ∧ W.cell? ⟨g, 1, none⟩ = some (.int .i64 a) ∧ W.cell? ⟨g, 2, none⟩ = some (.string old) ∧ W.cell? ⟨g, 3, none⟩ = some (.string new)) ∧ True) := hSW
          simp only [getElem_toArray, getElem_cons_zero, getElem_cons_succ]
          (try dsimp only at hSW)
          go_simp
          with_reducible rfl
        (try simp only [getElem_toArray, getElem_cons_zero, getElem_cons_succ, Act.put, setIfInBounds_toArray, set_cons_zero, set_cons_succ])
        refine wpAnyK_take 5 (v := ?_) (by first | exact hF | exact wideFn) (And.intro HS0.out trivial) rfl (by kernel_rfl) (by kernel_rfl) (by kernel_rfl) (by kernel_rfl) rfl ?_ (by first | exact fun _ _ _ h => h | exact fun _ _ _ h => hQ2 _ _ _ _ _ h) ?_
        rotate_left
        · intro W hSW
          replace hSW : ((W.cell? ⟨w.heap.size, a * 2 + 1, none⟩ = some (v (a * 2 + 1)) ∧ W.cell? ⟨g, 0, none⟩ = some (.int .i64 ki) ∧ W.cell? ⟨g, 1, none⟩ = some (.int .i64 a) ∧ W.cell? ⟨g, 2, none⟩ = some (.string old) ∧ W.cell? ⟨g, 3, none⟩ = some (.string new)) ∧ True) := hSW
          simp only [getElem_toArray, getElem_cons_zero, getElem_cons_succ]
          (try dsimp only at hSW)
          go_simp
          with_reducible rfl
        (try simp only [getElem_toArray, getElem_cons_zero, getElem_cons_succ, Act.put, setIfInBounds_toArray, set_cons_zero, set_cons_succ])
        refine wpAnyK_one 6 rfl (by kernel_rfl) (fun K hK => ?_)
        simp only [getElem_toArray, getElem_cons_zero, getElem_cons_succ]
        go_simp
        refine hK.out _ _ (.inr (pickS_all HS1.out trivial)) ?_
        clear hK K
        (try simp only [getElem_toArray, getElem_cons_zero, getElem_cons_succ, Act.put, setIfInBounds_toArray, set_cons_zero, set_cons_succ])
        refine wpAnyK_one 7 rfl (by kernel_rfl) (fun K hK => ?_)
        rw [if_pos (by rfl)]
        refine wpIn_append_run (.tmp 39) (.tmp 41) 26 (by first | exact hF | exact wideFn) rfl rfl rfl HRUN.out ?_
        refine hK.out _ _ (.inr (pickS_all HS2.out trivial)) ?_
        clear hK K
        (try simp only [getElem_toArray, getElem_cons_zero, getElem_cons_succ, Act.put, setIfInBounds_toArray, set_cons_zero, set_cons_succ])
        refine wpAnyK_take 8 (v := ?_) (by first | exact hF | exact wideFn) trivial rfl (by kernel_rfl) (by kernel_rfl) (by kernel_rfl) (by kernel_rfl) rfl ?_ (by first | exact fun _ _ _ h => h | exact fun _ _ _ h => hQ2 _ _ _ _ _ h) ?_
        rotate_left
        · intro W hSW
          replace hSW : True := hSW
          simp only [getElem_toArray, getElem_cons_zero, getElem_cons_succ]
          (try dsimp only at hSW)
          go_simp
          with_reducible rfl
        (try simp only [getElem_toArray, getElem_cons_zero, getElem_cons_succ, Act.put, setIfInBounds_toArray, set_cons_zero, set_cons_succ])
        refine wpAnyK_take 9 (v := ?_) (by first | exact hF | exact wideFn) trivial rfl (by kernel_rfl) (by kernel_rfl) (by kernel_rfl) (by kernel_rfl) rfl ?_ (by first | exact fun _ _ _ h => h | exact fun _ _ _ h => hQ2 _ _ _ _ _ h) ?_
        rotate_left
        · intro W hSW
          replace hSW : True := hSW
          simp only [getElem_toArray, getElem_cons_zero, getElem_cons_succ]
          (try dsimp only at hSW)
          go_simp
          with_reducible rfl
        (try simp only [getElem_toArray, getElem_cons_zero, getElem_cons_succ, Act.put, setIfInBounds_toArray, set_cons_zero, set_cons_succ])
        have cw := HS2.out.1
        refine wpAnyK_one 10 rfl (by kernel_rfl) (fun K hK => ?_)
        simp only [getElem_toArray, getElem_cons_zero, getElem_cons_succ]
        go_simp
        refine hK.out _ _ (.inr (pickS_need (by kernel_rfl) trivial)) ?_
        clear hK K
        (try simp only [getElem_toArray, getElem_cons_zero, getElem_cons_succ, Act.put, setIfInBounds_toArray, set_cons_zero, set_cons_succ])
        refine wpAnyK_done (by kernel_rfl) ?_
        go_wp2_with fail
        go_roundw
        case rel => exact ⟨k + 1, _, by omega, by go_num, hide (HPL.out.congr (fun r _ => by
          rw [plL_take l k (by rw [HLN.out.1]; exact hlt) HE.out r, hpq]
          by_cases e : r = a * 2 + 1
          · rw [e, upd_same, if_pos rfl]
          · rw [upd_ne _ _ e, if_neg (Ne.symm e)]))⟩
        case measure => simp [intOf]; omega
      -- END1
    · -- BEGIN2
      obtain rfl : k = L := by omega
      have hnl : ¬ (k : Int) < (k : Int) := by omega
      go_wp2_with fail
      go_ret
      refine ⟨_, rfl, v, ?_⟩
      have hall : l.take k = l := List.take_of_length_le (by rw [HLN.out.1]; omega)
      have := HP.out
      rwa [hall] at this
      -- END2
end Go.Proofs.YtmpegkojencbjaaDoor
/- School: the editor's state: own lists of words; what stays. -/
namespace Go.Proofs.YtmpegkojencbjaaDoor
open List (getElem_toArray getElem_cons_zero getElem_cons_succ setIfInBounds_toArray set_cons_zero set_cons_succ)
open Go Go.RowKit Go.Shelf
set_option maxHeartbeats 2000000
set_option maxRecDepth 100000
theorem info_str : (Tryd.prog.info? 9).map (fun i => (i.zero, i.size, i.bytes)) = some (some (.string noW), 1, 16) := by kernel_rfl
def strs (l : List Wd) : List Value := l.map .string
theorem strs_one (l : List Wd) : ∀ u ∈ strs l, u.oneCell' = true := by
  intro u hu
  obtain ⟨x, -, rfl⟩ := List.mem_map.1 hu
  rfl
theorem strs_len (l : List Wd) : (strs l).length = l.length := by simp [strs]
theorem strs_append (l m : List Wd) : strs (l ++ m) = strs l ++ strs m := by simp [strs]
/-- an own list of words -/
def OwnS (W : World) (n0 : Nat) (v : Value) (l : List Wd) : Prop := W.ownsRow n0 9 1 v l.length (strs l)
theorem OwnS.nil (W : World) (n0 : Nat) : OwnS W n0 (.slice none 0 0) [] := ⟨rfl, .inl ⟨rfl, rfl⟩⟩
theorem OwnS.ext {W W' : World} {n0 : Nat} {v : Value} {l : List Wd} (h : OwnS W n0 v l) (hb : Below W.heap.size W W') : OwnS W' n0 v l := ownBelow h hb
theorem strs_at (l : List Wd) {k : Nat} (hk : k < l.length) : (strs l)[k]? = some (.string (l.getD k noW)) := by
  unfold strs
  rw [List.getElem?_map, List.getElem?_eq_getElem hk, List.getD_eq_getElem?_getD, List.getElem?_eq_getElem hk]; rfl
theorem OwnS.pushes {W : World} {base : Nat} {v : Value} {l : List Wd} (h : OwnS W base v l) (A : Option Addr) (c : Nat) (m : List Wd) (hA : SR W W.heap.size A m) (hl : l.length + m.length ≤ 1000000) (hb : base ≤ W.heap.size) :
    ∃ v' w', (Builtin.append_ #[22, 22] 22 #[v, .slice A m.length c]).run Tryd.prog W = .ok v' w' ∧ OwnS w' base v' (l ++ m) ∧ W.grownBy w' v.ownBlock ∧ (v'.ownBlock = v.ownBlock ∨ v'.ownBlock = some W.heap.size) := by
  obtain ⟨i0, hi, hz0, hz1, hz2⟩ := info_parts info_str
  cases A with
  | none =>
    have hm : m = [] := by
      rcases hm : m with _ | ⟨x, m⟩
      · rfl
      · exfalso
        obtain ⟨b, off, hA, -⟩ := hA (by rw [hm]; simp)
        cases hA
    subst hm
    refine ⟨v, W, run_append_none0 (P := Tryd.prog) _ _ 9 i0 1 Tryd.underlying22 hi v l.length c (strs l) h, by simpa using h, World.grownBy.refl _ _, .inl rfl⟩
  | some a =>
    have hcells : ∀ j u, (strs m)[j]? = some u → W.cell? (a.add j) = some u := by
      intro j u hj
      have hlt : j < m.length := by
        have := (List.getElem?_eq_some_iff.1 hj).1
        rwa [strs_len] at this
      obtain ⟨b, off, hA', -, hc⟩ := VR1.at_ hA hlt
      injection hA' with hA'
      subst hA'
      rw [strs_at m hlt] at hj
      have e4 : ((⟨b, off, none⟩ : Addr).add j) = ⟨b, off + j, none⟩ := by simp [Addr.add]
      rw [e4, ← hj]
      exact hc
    obtain ⟨v', w', hr, h2, h3, -, h4⟩ := run_append_own_at (P := Tryd.prog) (w := W) base 22 22 9 i0 _ 1 16 Tryd.underlying22 hi hz0 hz1 hz2 rfl (by decide) v l.length (strs l) h
      a m.length c (strs m) (by rw [strs_len]; omega) hcells (strs_one m) (by unfold maxLen; omega) (by omega) hb
    refine ⟨v', w', hr, ?_, h3, h4⟩
    unfold OwnS
    rw [strs_append, List.length_append]
    exact h2
/-- what stays where an editor writes: all but its own block and the block of its list -/
structure KX (w w' : World) (X : Nat) (row : Option Nat) : Prop where
  os : w'.os = w.os
  tape : w'.tape = w.tape
  output : w'.output = w.output
  size : w.heap.size ≤ w'.heap.size
  block : ∀ k, k < w.heap.size → k ≠ X → some k ≠ row → w'.heap[k]? = w.heap[k]?
/-- an editor -/
structure EX (w W : World) (X : Nat) (A : Option Addr) (c : Nat) (a : List Wd) (i : Nat) (v : Value) (l : List Wd) : Prop where
  below : Below w.heap.size w W
  lo : w.heap.size ≤ X
  blk : Blk W X 92 #[.slice A a.length c, .int .i64 i, v]
  own : OwnS W w.heap.size v l
theorem KX.refl (w : World) (X : Nat) (row : Option Nat) : KX w w X row := ⟨rfl, rfl, rfl, Nat.le_refl _, fun _ _ _ _ => rfl⟩
theorem KX.of_below {w w' : World} (X : Nat) (row : Option Nat) (h : Below w.heap.size w w') : KX w w' X row := ⟨h.os, h.tape, h.output, h.size, fun k hk _ _ => h.block k hk⟩
theorem KX.grown {w w1 w2 : World} {X : Nat} {row : Option Nat} (h : KX w w1 X row) (hg : w1.grownBy w2 row) : KX w w2 X row :=
  ⟨hg.os.trans h.os, hg.tape.trans h.tape, hg.output.trans h.output, Nat.le_trans h.size hg.size, fun k hk h1 h2 => (hg.block k (Nat.lt_of_lt_of_le hk h.size) h2).trans (h.block k hk h1 h2)⟩
theorem KX.set {w w1 : World} {X : Nat} {row : Option Nat} (h : KX w w1 X row) (i : Nat) (u : Value) : KX w (w1.setCell ⟨X, i, none⟩ u) X row := by
  have hb : Below X w1 (w1.setCell ⟨X, i, none⟩ u) := (Below.refl X w1).setCell (p := ⟨X, i, none⟩) (Nat.le_refl _) u
  exact ⟨hb.os.trans h.os, hb.tape.trans h.tape, hb.output.trans h.output, Nat.le_trans h.size hb.size, fun k hk h1 h2 => (Below.heap_setCell w1 ⟨X, i, none⟩ u k h1).trans (h.block k hk h1 h2)⟩
/-- one after another: the later list's block is the earlier one's, or new -/
theorem KX.trans {w w1 w2 : World} {X : Nat} {row row1 : Option Nat} (h : KX w w1 X row) (h2 : KX w1 w2 X row1) (hr : row1 = row ∨ ∀ k, row1 = some k → w.heap.size ≤ k) : KX w w2 X row :=
  ⟨h2.os.trans h.os, h2.tape.trans h.tape, h2.output.trans h.output, Nat.le_trans h.size h2.size, fun k hk h1 h3 => by
    refine (h2.block k (Nat.lt_of_lt_of_le hk h.size) h1 ?_).trans (h.block k hk h1 h3)
    rcases hr with rfl | hr
    · exact h3
    · intro e
      have := hr k e.symm
      omega⟩
theorem Blk.kx {w w' : World} {X : Nat} {row : Option Nat} {g : Nat} {t : TypeId} {cs : Array Value} (h : Blk w g t cs) (hk : KX w w' X row) (h1 : g ≠ X) (h2 : some g ≠ row) : Blk w' g t cs := (hk.block g h.lt h1 h2).trans h
theorem SR.seg {w : World} {B : Nat} {b off : Nat} {l : List Wd} (h : SR w B (some ⟨b, off, none⟩) l) (i n : Nat) (hn : i + n ≤ l.length) : SR w B (some ⟨b, off + i, none⟩) ((l.drop i).take n) := by
  intro h0
  have hlen : ((l.drop i).take n).length = n := by rw [List.length_take, List.length_drop]; omega
  obtain ⟨b', off', hA, hlt, hc⟩ := h (by omega)
  injection hA with hA
  injection hA with h1 h2
  subst h1 h2
  refine ⟨b, off + i, rfl, hlt, fun k j hk hj => ?_⟩
  rw [hlen] at hk
  have h3 := hc (i + k) j (by omega) hj
  rw [show off + i + k * 1 + j = off + (i + k) * 1 + j by omega, h3]
  have e : ((l.drop i).take n).getD k noW = l.getD (i + k) noW := by
    simp only [List.getD_eq_getElem?_getD]
    rw [List.getElem?_take_of_lt hk, List.getElem?_drop]
  exact congrArg (fun x => some (Value.string x)) e.symm
def segA (A : Option Addr) (c i : Nat) : Option Addr := match A with | none => none | some p => if c = i then some p else some (p.add i)
def takeL (a : List Wd) (i t : Nat) (l : List Wd) : List Wd := l ++ (a.drop i).take (t - i)
theorem take_any (w W : World) (X : Nat) (A : Option Addr) (c : Nat) (a : List Wd) (i t : Nat) (v : Value) (l : List Wd) (hX : EX w W X A c a i v l) (hA : SR w w.heap.size A a) (hit : i ≤ t) (hta : t ≤ a.length) (hac : a.length ≤ c) (hc : c ≤ maxLen) (hl : l.length + t ≤ 1000000) :
    Calls Tryd.prog 57 #[.pointer (some ⟨X, 0, none⟩), .int .i64 t] W fun e w' => ∃ v', e = .returned (.tuple #[]) ∧ EX w w' X A c a t v' (takeL a i t l) ∧ KX W w' X v.ownBlock ∧ (v'.ownBlock = v.ownBlock ∨ ∀ k, v'.ownBlock = some k → W.heap.size ≤ k) := by
  unfold maxLen at hc
  have HX := hide hX
  obtain ⟨n, hn⟩ : ∃ n, a.length = n := ⟨_, rfl⟩
  have HN := hide hn
  rw [hn] at hta hac
  have i0 : (0 : Int) ≤ (i : Int) := by omega
  have i1 : (i : Int) ≤ (t : Int) := by omega
  have t1 : (t : Int) ≤ (c : Int) := by omega
  have HS0 : Hid (W.drew.cell? ⟨X, 0, none⟩ = some (.slice (A) n c) ∧ W.drew.cell? ⟨X, 1, none⟩ = some (.int .i64 i) ∧ W.drew.cell? ⟨X, 2, none⟩ = some v) := hide (by
    have h := (hX.blk.drew)
    rw [hn] at h
    obtain ⟨-, h0, h1, h2, -⟩ := blk3 h
    exact ⟨h0, h1, h2⟩)
  have HA := hide hA
  clear hX hA hn
  have HSEG : Hid (∀ AS : Option Addr, AS = segA A c i → SR W.drew W.drew.heap.size AS ((a.drop i).take (t - i))) := hide (by
    intro AS hAS
    have hA : SR W.drew W.drew.heap.size A a := ER.more (ER.below HA.out HX.out.below.drew (Nat.le_refl _)) HX.out.below.size
    by_cases h0 : i < t
    · obtain ⟨b, off, hA2, -, -⟩ := hA (by rw [HN.out]; omega)
      subst hA2
      have h1 : ¬ c = i := by omega
      subst hAS
      unfold segA
      dsimp only
      rw [if_neg h1]
      have e4 : ((⟨b, off, none⟩ : Addr).add i) = ⟨b, off + i, none⟩ := by simp [Addr.add]
      rw [e4]
      exact hA.seg i (t - i) (by rw [HN.out]; omega)
    · intro h
      rw [List.length_take] at h
      omega)
  have HKD := hide (show KX W W.drew X v.ownBlock from KX.of_below X _ (Below.refl _ _).drew)
  have HXD := hide (show EX w W.drew X A c a i v l from ⟨HX.out.below.drew, HX.out.lo, HX.out.blk, HX.out.own⟩)
  have hWs : W.drew.heap.size = W.heap.size := rfl
  obtain ⟨wd, hwd⟩ : ∃ wd, W.drew = wd := ⟨_, rfl⟩
  rw [hwd] at HS0 HSEG HKD HXD hWs
  clear HX
  have hseg : ((a.drop i).take (t - i)).length = t - i := by rw [List.length_take, List.length_drop, HN.out]; omega
  have HSG := hide hseg
  clear hseg
  cases A with
  | none =>
    have hnl : n = 0 := by
      rcases Nat.eq_zero_or_pos n with h | h
      · exact h
      · obtain ⟨b, off, hA2, -, -⟩ := HA.out (by rw [HN.out]; exact h)
        cases hA2
    subst hnl
    obtain rfl : t = 0 := by omega
    obtain rfl : i = 0 := by omega
    obtain ⟨v', w', hrun, ho, hg, hrow⟩ := OwnS.pushes (W := wd) (v := v) (l := l) (base := w.heap.size) HXD.out.own none c _ (HSEG.out _ rfl) (by rw [HSG.out]; omega) HXD.out.below.size
    rw [HSG.out] at hrun
    have B1 := HXD.out.blk
    have lX := B1.lt
    have B2 := B1.grown hg (fun e => own_blk_ne HXD.out.own HXD.out.blk (by decide) e.symm)
    have HS1 : Hid (w'.cell? ⟨X, 0, none⟩ = some (.slice none 0 c) ∧ w'.cell? ⟨X, 1, none⟩ = some (.int .i64 (0 : Nat)) ∧ w'.cell? ⟨X, 2, none⟩ = some v) := hide (by
      have h := B2
      rw [HN.out] at h
      obtain ⟨-, h0, h1, h2, -⟩ := blk3 h
      exact ⟨h0, h1, h2⟩)
    obtain ⟨A', c', hv'⟩ := own_shape ho
    obtain ⟨ln, hln⟩ : ∃ ln, (l ++ (a.drop 0).take (0 - 0)).length = ln := ⟨_, rfl⟩
    rw [hln] at hv'
    subst hv'
    clear hln
    have HRUN := hide hrun
    have f1 := B2.frozen 1
    have f2 := B2.frozen 2
    have l2 := B2.lt
    have HB2 := hide (And.intro B2 (And.intro ho (And.intro hg hrow)))
    clear hrun ho hg hrow B1 B2
    go_enter Tryd.func57, Tryd.ntmps57
    go_upto_region 0 with fail
    refine wp_region_K (pickS [4, 8, 12] (fun W : World => W.cell? ⟨X, 0, none⟩ = some (.slice none 0 c) ∧ W.cell? ⟨X, 1, none⟩ = some (.int .i64 (0 : Nat)) ∧ W.cell? ⟨X, 2, none⟩ = some v) (fun _ => True)) (by kernel_rfl) ?_
    rw [hwd]
    clear hwd
    refine wpAnyK_take 0 (v := ?_) (by first | exact hF | exact wideFn) trivial rfl (by kernel_rfl) (by kernel_rfl) (by kernel_rfl) (by kernel_rfl) rfl ?_ (by first | exact fun _ _ _ h => h | exact fun _ _ _ h => hQ2 _ _ _ _ _ h) ?_
    rotate_left
    · intro W hSW
      replace hSW : True := hSW
      simp only [getElem_toArray, getElem_cons_zero, getElem_cons_succ]
      (try dsimp only at hSW)
      go_simp
      with_reducible rfl
    (try simp only [getElem_toArray, getElem_cons_zero, getElem_cons_succ, Act.put, setIfInBounds_toArray, set_cons_zero, set_cons_succ])
    refine wpAnyK_take 1 (v := ?_) (by first | exact hF | exact wideFn) trivial rfl (by kernel_rfl) (by kernel_rfl) (by kernel_rfl) (by kernel_rfl) rfl ?_ (by first | exact fun _ _ _ h => h | exact fun _ _ _ h => hQ2 _ _ _ _ _ h) ?_
    rotate_left
    · intro W hSW
      replace hSW : True := hSW
      simp only [getElem_toArray, getElem_cons_zero, getElem_cons_succ]
      (try dsimp only at hSW)
      go_simp
      with_reducible rfl
    (try simp only [getElem_toArray, getElem_cons_zero, getElem_cons_succ, Act.put, setIfInBounds_toArray, set_cons_zero, set_cons_succ])
    refine wpAnyK_take 2 (v := ?_) (by first | exact hF | exact wideFn) trivial rfl (by kernel_rfl) (by kernel_rfl) (by kernel_rfl) (by kernel_rfl) rfl ?_ (by first | exact fun _ _ _ h => h | exact fun _ _ _ h => hQ2 _ _ _ _ _ h) ?_
    rotate_left
    · intro W hSW
      replace hSW : True := hSW
      simp only [getElem_toArray, getElem_cons_zero, getElem_cons_succ]
      (try dsimp only at hSW)
      go_simp
      with_reducible rfl
    (try simp only [getElem_toArray, getElem_cons_zero, getElem_cons_succ, Act.put, setIfInBounds_toArray, set_cons_zero, set_cons_succ])
    refine wpAnyK_take 3 (v := ?_) (by first | exact hF | exact wideFn) trivial rfl (by kernel_rfl) (by kernel_rfl) (by kernel_rfl) (by kernel_rfl) rfl ?_ (by first | exact fun _ _ _ h => h | exact fun _ _ _ h => hQ2 _ _ _ _ _ h) ?_
    rotate_left
    · intro W hSW
      replace hSW : True := hSW
      simp only [getElem_toArray, getElem_cons_zero, getElem_cons_succ]
      (try dsimp only at hSW)
      go_simp
      with_reducible rfl
    (try simp only [getElem_toArray, getElem_cons_zero, getElem_cons_succ, Act.put, setIfInBounds_toArray, set_cons_zero, set_cons_succ])
    refine wpAnyK_take 4 (v := ?_) (by first | exact hF | exact wideFn) (And.intro HS0.out trivial) rfl (by kernel_rfl) (by kernel_rfl) (by kernel_rfl) (by kernel_rfl) rfl ?_ (by first | exact fun _ _ _ h => h | exact fun _ _ _ h => hQ2 _ _ _ _ _ h) ?_
    rotate_left
    · intro W hSW
      replace hSW : ((W.cell? ⟨X, 0, none⟩ = some (.slice none 0 c) ∧ W.cell? ⟨X, 1, none⟩ = some (.int .i64 (0 : Nat)) ∧ W.cell? ⟨X, 2, none⟩ = some v) ∧ True) := hSW
      simp only [getElem_toArray, getElem_cons_zero, getElem_cons_succ]
      (try dsimp only at hSW)
      go_simp
      with_reducible rfl
    (try simp only [getElem_toArray, getElem_cons_zero, getElem_cons_succ, Act.put, setIfInBounds_toArray, set_cons_zero, set_cons_succ])
    refine wpAnyK_take 5 (v := ?_) (by first | exact hF | exact wideFn) trivial rfl (by kernel_rfl) (by kernel_rfl) (by kernel_rfl) (by kernel_rfl) rfl ?_ (by first | exact fun _ _ _ h => h | exact fun _ _ _ h => hQ2 _ _ _ _ _ h) ?_
    rotate_left
    · intro W hSW
      replace hSW : True := hSW
      simp only [getElem_toArray, getElem_cons_zero, getElem_cons_succ]
      (try dsimp only at hSW)
      go_simp
      with_reducible rfl
    (try simp only [getElem_toArray, getElem_cons_zero, getElem_cons_succ, Act.put, setIfInBounds_toArray, set_cons_zero, set_cons_succ])
    refine wpAnyK_take 6 (v := ?_) (by first | exact hF | exact wideFn) trivial rfl (by kernel_rfl) (by kernel_rfl) (by kernel_rfl) (by kernel_rfl) rfl ?_ (by first | exact fun _ _ _ h => h | exact fun _ _ _ h => hQ2 _ _ _ _ _ h) ?_
    rotate_left
    · intro W hSW
      replace hSW : True := hSW
      simp only [getElem_toArray, getElem_cons_zero, getElem_cons_succ]
      (try dsimp only at hSW)
      go_simp
      with_reducible rfl
    (try simp only [getElem_toArray, getElem_cons_zero, getElem_cons_succ, Act.put, setIfInBounds_toArray, set_cons_zero, set_cons_succ])
    refine wpAnyK_take 7 (v := ?_) (by first | exact hF | exact wideFn) trivial rfl (by kernel_rfl) (by kernel_rfl) (by kernel_rfl) (by kernel_rfl) rfl ?_ (by first | exact fun _ _ _ h => h | exact fun _ _ _ h => hQ2 _ _ _ _ _ h) ?_
    rotate_left
    · intro W hSW
      replace hSW : True := hSW
      simp only [getElem_toArray, getElem_cons_zero, getElem_cons_succ]
      (try dsimp only at hSW)
      go_simp
      with_reducible rfl
    (try simp only [getElem_toArray, getElem_cons_zero, getElem_cons_succ, Act.put, setIfInBounds_toArray, set_cons_zero, set_cons_succ])
    refine wpAnyK_take 8 (v := ?_) (by first | exact hF | exact wideFn) (And.intro HS0.out trivial) rfl (by kernel_rfl) (by kernel_rfl) (by kernel_rfl) (by kernel_rfl) rfl ?_ (by first | exact fun _ _ _ h => h | exact fun _ _ _ h => hQ2 _ _ _ _ _ h) ?_
    rotate_left
    · intro W hSW
      replace hSW : ((W.cell? ⟨X, 0, none⟩ = some (.slice none 0 c) ∧ W.cell? ⟨X, 1, none⟩ = some (.int .i64 (0 : Nat)) ∧ W.cell? ⟨X, 2, none⟩ = some v) ∧ True) := hSW
      simp only [getElem_toArray, getElem_cons_zero, getElem_cons_succ]
      (try dsimp only at hSW)
      go_simp
      with_reducible rfl
    (try simp only [getElem_toArray, getElem_cons_zero, getElem_cons_succ, Act.put, setIfInBounds_toArray, set_cons_zero, set_cons_succ])
    refine wpAnyK_take 9 (v := ?_) (by first | exact hF | exact wideFn) trivial rfl (by kernel_rfl) (by kernel_rfl) (by kernel_rfl) (by kernel_rfl) rfl ?_ (by first | exact fun _ _ _ h => h | exact fun _ _ _ h => hQ2 _ _ _ _ _ h) ?_
    rotate_left
    · intro W hSW
      replace hSW : True := hSW
      simp only [getElem_toArray, getElem_cons_zero, getElem_cons_succ]
      (try dsimp only at hSW)
      go_simp
      with_reducible rfl
    (try simp only [getElem_toArray, getElem_cons_zero, getElem_cons_succ, Act.put, setIfInBounds_toArray, set_cons_zero, set_cons_succ])
    refine wpAnyK_take 10 (v := ?_) (by first | exact hF | exact wideFn) trivial rfl (by kernel_rfl) (by kernel_rfl) (by kernel_rfl) (by kernel_rfl) rfl ?_ (by first | exact fun _ _ _ h => h | exact fun _ _ _ h => hQ2 _ _ _ _ _ h) ?_
    rotate_left
    · intro W hSW
      replace hSW : True := hSW
      simp only [getElem_toArray, getElem_cons_zero, getElem_cons_succ]
      (try dsimp only at hSW)
      go_simp
      with_reducible rfl
    (try simp only [getElem_toArray, getElem_cons_zero, getElem_cons_succ, Act.put, setIfInBounds_toArray, set_cons_zero, set_cons_succ])
    refine wpAnyK_take 11 (v := ?_) (by first | exact hF | exact wideFn) trivial rfl (by kernel_rfl) (by kernel_rfl) (by kernel_rfl) (by kernel_rfl) rfl ?_ (by first | exact fun _ _ _ h => h | exact fun _ _ _ h => hQ2 _ _ _ _ _ h) ?_
    rotate_left
    · intro W hSW
      replace hSW : True := hSW
      simp only [getElem_toArray, getElem_cons_zero, getElem_cons_succ]
      (try dsimp only at hSW)
      go_simp
      with_reducible rfl
    (try simp only [getElem_toArray, getElem_cons_zero, getElem_cons_succ, Act.put, setIfInBounds_toArray, set_cons_zero, set_cons_succ])
    refine wpAnyK_take 12 (v := ?_) (by first | exact hF | exact wideFn) (And.intro HS0.out trivial) rfl (by kernel_rfl) (by kernel_rfl) (by kernel_rfl) (by kernel_rfl) rfl ?_ (by first | exact fun _ _ _ h => h | exact fun _ _ _ h => hQ2 _ _ _ _ _ h) ?_
    rotate_left
    · intro W hSW
      replace hSW : ((W.cell? ⟨X, 0, none⟩ = some (.slice none 0 c) ∧ W.cell? ⟨X, 1, none⟩ = some (.int .i64 (0 : Nat)) ∧ W.cell? ⟨X, 2, none⟩ = some v) ∧ True) := hSW
      simp only [getElem_toArray, getElem_cons_zero, getElem_cons_succ]
      (try dsimp only at hSW)
      go_simp
      with_reducible rfl
    (try simp only [getElem_toArray, getElem_cons_zero, getElem_cons_succ, Act.put, setIfInBounds_toArray, set_cons_zero, set_cons_succ])
    refine wpAnyK_take 13 (v := ?_) (by first | exact hF | exact wideFn) trivial rfl (by kernel_rfl) (by kernel_rfl) (by kernel_rfl) (by kernel_rfl) rfl ?_ (by first | exact fun _ _ _ h => h | exact fun _ _ _ h => hQ2 _ _ _ _ _ h) ?_
    rotate_left
    · intro W hSW
      replace hSW : True := hSW
      simp only [getElem_toArray, getElem_cons_zero, getElem_cons_succ]
      (try dsimp only at hSW)
      go_simp
      with_reducible rfl
    (try simp only [getElem_toArray, getElem_cons_zero, getElem_cons_succ, Act.put, setIfInBounds_toArray, set_cons_zero, set_cons_succ])
    refine wpAnyK_take 14 (v := ?_) (by first | exact hF | exact wideFn) trivial rfl (by kernel_rfl) (by kernel_rfl) (by kernel_rfl) (by kernel_rfl) rfl ?_ (by first | exact fun _ _ _ h => h | exact fun _ _ _ h => hQ2 _ _ _ _ _ h) ?_
    rotate_left
    · intro W hSW
      replace hSW : True := hSW
      simp only [getElem_toArray, getElem_cons_zero, getElem_cons_succ]
      (try dsimp only at hSW)
      go_simp
      with_reducible rfl
    (try simp only [getElem_toArray, getElem_cons_zero, getElem_cons_succ, Act.put, setIfInBounds_toArray, set_cons_zero, set_cons_succ])
    refine wpAnyK_one 15 rfl (by kernel_rfl) (fun K hK => ?_)
    rw [if_pos (by rfl)]
    refine wpIn_append_run (.tmp 8) (.tmp 18) 22 (by first | exact hF | exact wideFn) rfl rfl rfl HRUN.out ?_
    refine hK.out _ _ (.inr (pickS_all HS1.out trivial)) ?_
    clear hK K
    (try simp only [getElem_toArray, getElem_cons_zero, getElem_cons_succ, Act.put, setIfInBounds_toArray, set_cons_zero, set_cons_succ])
    refine wpAnyK_take 16 (v := ?_) (by first | exact hF | exact wideFn) trivial rfl (by kernel_rfl) (by kernel_rfl) (by kernel_rfl) (by kernel_rfl) rfl ?_ (by first | exact fun _ _ _ h => h | exact fun _ _ _ h => hQ2 _ _ _ _ _ h) ?_
    rotate_left
    · intro W hSW
      replace hSW : True := hSW
      simp only [getElem_toArray, getElem_cons_zero, getElem_cons_succ]
      (try dsimp only at hSW)
      go_simp
      with_reducible rfl
    (try simp only [getElem_toArray, getElem_cons_zero, getElem_cons_succ, Act.put, setIfInBounds_toArray, set_cons_zero, set_cons_succ])
    refine wpAnyK_take 17 (v := ?_) (by first | exact hF | exact wideFn) trivial rfl (by kernel_rfl) (by kernel_rfl) (by kernel_rfl) (by kernel_rfl) rfl ?_ (by first | exact fun _ _ _ h => h | exact fun _ _ _ h => hQ2 _ _ _ _ _ h) ?_
    rotate_left
    · intro W hSW
      replace hSW : True := hSW
      simp only [getElem_toArray, getElem_cons_zero, getElem_cons_succ]
      (try dsimp only at hSW)
      go_simp
      with_reducible rfl
    (try simp only [getElem_toArray, getElem_cons_zero, getElem_cons_succ, Act.put, setIfInBounds_toArray, set_cons_zero, set_cons_succ])
    have c1 := HS1.out.2.1
    have c2 := HS1.out.2.2
    refine wpAnyK_one 18 rfl (by kernel_rfl) (fun K hK => ?_)
    simp only [getElem_toArray, getElem_cons_zero, getElem_cons_succ]
    go_simp
    refine hK.out _ _ (.inr (pickS_need (by kernel_rfl) trivial)) ?_
    clear hK K
    (try simp only [getElem_toArray, getElem_cons_zero, getElem_cons_succ, Act.put, setIfInBounds_toArray, set_cons_zero, set_cons_succ])
    refine wpAnyK_done (by kernel_rfl) ?_
    go_wp2_with fail
    go_end0
    obtain ⟨B2, ho, hg, hrow⟩ := HB2.out
    refine ⟨.slice A' ln c', rfl, ⟨((HXD.out.below.grown hg HXD.out.below.size (fun k hk => (World.ownsRow.lt HXD.out.own k hk).1)).setCell HXD.out.lo _).setCell HXD.out.lo _, HXD.out.lo, ?_, ?_⟩, ((HKD.out.grown hg).set 2 _).set 1 _, hrow.imp id (fun h k hk => ?_)⟩
    · have h := (B2.set_ 2 (.slice A' ln c')).set_ 1 (.int .i64 (0 : Nat))
      exact h
    · have h1 := World.ownsRow.kept ho (grownBy_setC w' X 2 (.slice A' ln c')) (.inr (own_blk_ne ho B2 (by decide)))
      exact World.ownsRow.kept h1 (grownBy_setC _ X 1 (.int .i64 (0 : Nat))) (.inr (own_blk_ne h1 (B2.set_ 2 _) (by decide)))
    · rw [h] at hk
      injection hk with hk
      omega
  | some p =>
    obtain ⟨b, off, o⟩ := p
    obtain ⟨v', w', hrun, ho, hg, hrow⟩ := OwnS.pushes (W := wd) (v := v) (l := l) (base := w.heap.size) HXD.out.own (if c = i then some ⟨b, off, o⟩ else some ((⟨b, off, o⟩ : Addr).add i)) (c - i) _ (HSEG.out _ rfl) (by rw [HSG.out]; omega) HXD.out.below.size
    rw [HSG.out] at hrun
    have B1 := HXD.out.blk
    have lX := B1.lt
    have B2 := B1.grown hg (fun e => own_blk_ne HXD.out.own HXD.out.blk (by decide) e.symm)
    have HS1 : Hid (w'.cell? ⟨X, 0, none⟩ = some (.slice (some ⟨b, off, o⟩) n c) ∧ w'.cell? ⟨X, 1, none⟩ = some (.int .i64 i) ∧ w'.cell? ⟨X, 2, none⟩ = some v) := hide (by
      have h := B2
      rw [HN.out] at h
      obtain ⟨-, h0, h1, h2, -⟩ := blk3 h
      exact ⟨h0, h1, h2⟩)
    obtain ⟨A', c', hv'⟩ := own_shape ho
    obtain ⟨ln, hln⟩ : ∃ ln, (l ++ (a.drop i).take (t - i)).length = ln := ⟨_, rfl⟩
    rw [hln] at hv'
    subst hv'
    clear hln
    obtain ⟨AS, hAS⟩ : ∃ AS, (if c = i then some (⟨b, off, o⟩ : Addr) else some ((⟨b, off, o⟩ : Addr).add i)) = AS := ⟨_, rfl⟩
    rw [hAS] at hrun
    have HAS := hide hAS
    clear hAS
    have HRUN := hide hrun
    have f1 := B2.frozen 1
    have f2 := B2.frozen 2
    have l2 := B2.lt
    have HB2 := hide (And.intro B2 (And.intro ho (And.intro hg hrow)))
    clear hrun ho hg hrow B1 B2
    go_enter Tryd.func57, Tryd.ntmps57
    go_upto_region 0 with fail
    refine wp_region_K (pickS [4, 8, 12] (fun W : World => W.cell? ⟨X, 0, none⟩ = some (.slice (some ⟨b, off, o⟩) n c) ∧ W.cell? ⟨X, 1, none⟩ = some (.int .i64 i) ∧ W.cell? ⟨X, 2, none⟩ = some v) (fun _ => True)) (by kernel_rfl) ?_
    rw [hwd]
    clear hwd
    refine wpAnyK_take 0 (v := ?_) (by first | exact hF | exact wideFn) trivial rfl (by kernel_rfl) (by kernel_rfl) (by kernel_rfl) (by kernel_rfl) rfl ?_ (by first | exact fun _ _ _ h => h | exact fun _ _ _ h => hQ2 _ _ _ _ _ h) ?_
    rotate_left
    · intro W hSW
      replace hSW : True := hSW
      simp only [getElem_toArray, getElem_cons_zero, getElem_cons_succ]
      (try dsimp only at hSW)
      go_simp
      with_reducible rfl
    (try simp only [getElem_toArray, getElem_cons_zero, getElem_cons_succ, Act.put, setIfInBounds_toArray, set_cons_zero, set_cons_succ])
    refine wpAnyK_take 1 (v := ?_) (by first | exact hF | exact wideFn) trivial rfl (by kernel_rfl) (by kernel_rfl) (by kernel_rfl) (by kernel_rfl) rfl ?_ (by first | exact fun _ _ _ h => h | exact fun _ _ _ h => hQ2 _ _ _ _ _ h) ?_
    rotate_left
    · intro W hSW
      replace hSW : True := hSW
      simp only [getElem_toArray, getElem_cons_zero, getElem_cons_succ]
      (try dsimp only at hSW)
      go_simp
      with_reducible rfl
    (try simp only [getElem_toArray, getElem_cons_zero, getElem_cons_succ, Act.put, setIfInBounds_toArray, set_cons_zero, set_cons_succ])
    refine wpAnyK_take 2 (v := ?_) (by first | exact hF | exact wideFn) trivial rfl (by kernel_rfl) (by kernel_rfl) (by kernel_rfl) (by kernel_rfl) rfl ?_ (by first | exact fun _ _ _ h => h | exact fun _ _ _ h => hQ2 _ _ _ _ _ h) ?_
    rotate_left
    · intro W hSW
      replace hSW : True := hSW
      simp only [getElem_toArray, getElem_cons_zero, getElem_cons_succ]
      (try dsimp only at hSW)
      go_simp
      with_reducible rfl
    (try simp only [getElem_toArray, getElem_cons_zero, getElem_cons_succ, Act.put, setIfInBounds_toArray, set_cons_zero, set_cons_succ])
    refine wpAnyK_take 3 (v := ?_) (by first | exact hF | exact wideFn) trivial rfl (by kernel_rfl) (by kernel_rfl) (by kernel_rfl) (by kernel_rfl) rfl ?_ (by first | exact fun _ _ _ h => h | exact fun _ _ _ h => hQ2 _ _ _ _ _ h) ?_
    rotate_left
    · intro W hSW
      replace hSW : True := hSW
      simp only [getElem_toArray, getElem_cons_zero, getElem_cons_succ]
      (try dsimp only at hSW)
      go_simp
      with_reducible rfl
    (try simp only [getElem_toArray, getElem_cons_zero, getElem_cons_succ, Act.put, setIfInBounds_toArray, set_cons_zero, set_cons_succ])
    refine wpAnyK_take 4 (v := ?_) (by first | exact hF | exact wideFn) (And.intro HS0.out trivial) rfl (by kernel_rfl) (by kernel_rfl) (by kernel_rfl) (by kernel_rfl) rfl ?_ (by first | exact fun _ _ _ h => h | exact fun _ _ _ h => hQ2 _ _ _ _ _ h) ?_
    rotate_left
    · intro W hSW
      replace hSW : ((W.cell? ⟨X, 0, none⟩ = some (.slice (some ⟨b, off, o⟩) n c) ∧ W.cell? ⟨X, 1, none⟩ = some (.int .i64 i) ∧ W.cell? ⟨X, 2, none⟩ = some v) ∧ True) := hSW
      simp only [getElem_toArray, getElem_cons_zero, getElem_cons_succ]
      (try dsimp only at hSW)
      go_simp
      with_reducible rfl
    (try simp only [getElem_toArray, getElem_cons_zero, getElem_cons_succ, Act.put, setIfInBounds_toArray, set_cons_zero, set_cons_succ])
    refine wpAnyK_take 5 (v := ?_) (by first | exact hF | exact wideFn) trivial rfl (by kernel_rfl) (by kernel_rfl) (by kernel_rfl) (by kernel_rfl) rfl ?_ (by first | exact fun _ _ _ h => h | exact fun _ _ _ h => hQ2 _ _ _ _ _ h) ?_
    rotate_left
    · intro W hSW
      replace hSW : True := hSW
      simp only [getElem_toArray, getElem_cons_zero, getElem_cons_succ]
      (try dsimp only at hSW)
      go_simp
      with_reducible rfl
    (try simp only [getElem_toArray, getElem_cons_zero, getElem_cons_succ, Act.put, setIfInBounds_toArray, set_cons_zero, set_cons_succ])
    refine wpAnyK_take 6 (v := ?_) (by first | exact hF | exact wideFn) trivial rfl (by kernel_rfl) (by kernel_rfl) (by kernel_rfl) (by kernel_rfl) rfl ?_ (by first | exact fun _ _ _ h => h | exact fun _ _ _ h => hQ2 _ _ _ _ _ h) ?_
    rotate_left
    · intro W hSW
      replace hSW : True := hSW
      simp only [getElem_toArray, getElem_cons_zero, getElem_cons_succ]
      (try dsimp only at hSW)
      go_simp
      with_reducible rfl
    (try simp only [getElem_toArray, getElem_cons_zero, getElem_cons_succ, Act.put, setIfInBounds_toArray, set_cons_zero, set_cons_succ])
    refine wpAnyK_take 7 (v := ?_) (by first | exact hF | exact wideFn) trivial rfl (by kernel_rfl) (by kernel_rfl) (by kernel_rfl) (by kernel_rfl) rfl ?_ (by first | exact fun _ _ _ h => h | exact fun _ _ _ h => hQ2 _ _ _ _ _ h) ?_
    rotate_left
    · intro W hSW
      replace hSW : True := hSW
      simp only [getElem_toArray, getElem_cons_zero, getElem_cons_succ]
      (try dsimp only at hSW)
      go_simp
      with_reducible rfl
    (try simp only [getElem_toArray, getElem_cons_zero, getElem_cons_succ, Act.put, setIfInBounds_toArray, set_cons_zero, set_cons_succ])
    refine wpAnyK_take 8 (v := ?_) (by first | exact hF | exact wideFn) (And.intro HS0.out trivial) rfl (by kernel_rfl) (by kernel_rfl) (by kernel_rfl) (by kernel_rfl) rfl ?_ (by first | exact fun _ _ _ h => h | exact fun _ _ _ h => hQ2 _ _ _ _ _ h) ?_
    rotate_left
    · intro W hSW
      replace hSW : ((W.cell? ⟨X, 0, none⟩ = some (.slice (some ⟨b, off, o⟩) n c) ∧ W.cell? ⟨X, 1, none⟩ = some (.int .i64 i) ∧ W.cell? ⟨X, 2, none⟩ = some v) ∧ True) := hSW
      simp only [getElem_toArray, getElem_cons_zero, getElem_cons_succ]
      (try dsimp only at hSW)
      go_simp
      with_reducible rfl
    (try simp only [getElem_toArray, getElem_cons_zero, getElem_cons_succ, Act.put, setIfInBounds_toArray, set_cons_zero, set_cons_succ])
    refine wpAnyK_take 9 (v := ?_) (by first | exact hF | exact wideFn) trivial rfl (by kernel_rfl) (by kernel_rfl) (by kernel_rfl) (by kernel_rfl) rfl ?_ (by first | exact fun _ _ _ h => h | exact fun _ _ _ h => hQ2 _ _ _ _ _ h) ?_
    rotate_left
    · intro W hSW
      replace hSW : True := hSW
      simp only [getElem_toArray, getElem_cons_zero, getElem_cons_succ]
      (try dsimp only at hSW)
      go_simp
      with_reducible rfl
    (try simp only [getElem_toArray, getElem_cons_zero, getElem_cons_succ, Act.put, setIfInBounds_toArray, set_cons_zero, set_cons_succ])
    refine wpAnyK_take 10 (v := ?_) (by first | exact hF | exact wideFn) trivial rfl (by kernel_rfl) (by kernel_rfl) (by kernel_rfl) (by kernel_rfl) rfl ?_ (by first | exact fun _ _ _ h => h | exact fun _ _ _ h => hQ2 _ _ _ _ _ h) ?_
    rotate_left
    · intro W hSW
      replace hSW : True := hSW
      simp only [getElem_toArray, getElem_cons_zero, getElem_cons_succ]
      (try dsimp only at hSW)
      go_simp
      with_reducible rfl
    (try simp only [getElem_toArray, getElem_cons_zero, getElem_cons_succ, Act.put, setIfInBounds_toArray, set_cons_zero, set_cons_succ])
    refine wpAnyK_take 11 (v := ?_) (by first | exact hF | exact wideFn) trivial rfl (by kernel_rfl) (by kernel_rfl) (by kernel_rfl) (by kernel_rfl) rfl ?_ (by first | exact fun _ _ _ h => h | exact fun _ _ _ h => hQ2 _ _ _ _ _ h) ?_
    rotate_left
    · intro W hSW
      replace hSW : True := hSW
      simp only [getElem_toArray, getElem_cons_zero, getElem_cons_succ]
      (try dsimp only at hSW)
      go_simp
      with_reducible rfl
    (try simp only [getElem_toArray, getElem_cons_zero, getElem_cons_succ, Act.put, setIfInBounds_toArray, set_cons_zero, set_cons_succ])
    refine wpAnyK_take 12 (v := ?_) (by first | exact hF | exact wideFn) (And.intro HS0.out trivial) rfl (by kernel_rfl) (by kernel_rfl) (by kernel_rfl) (by kernel_rfl) rfl ?_ (by first | exact fun _ _ _ h => h | exact fun _ _ _ h => hQ2 _ _ _ _ _ h) ?_
    rotate_left
    · intro W hSW
      replace hSW : ((W.cell? ⟨X, 0, none⟩ = some (.slice (some ⟨b, off, o⟩) n c) ∧ W.cell? ⟨X, 1, none⟩ = some (.int .i64 i) ∧ W.cell? ⟨X, 2, none⟩ = some v) ∧ True) := hSW
      simp only [getElem_toArray, getElem_cons_zero, getElem_cons_succ]
      (try dsimp only at hSW)
      go_simp
      with_reducible rfl
    (try simp only [getElem_toArray, getElem_cons_zero, getElem_cons_succ, Act.put, setIfInBounds_toArray, set_cons_zero, set_cons_succ])
    refine wpAnyK_take 13 (v := ?_) (by first | exact hF | exact wideFn) trivial rfl (by kernel_rfl) (by kernel_rfl) (by kernel_rfl) (by kernel_rfl) rfl ?_ (by first | exact fun _ _ _ h => h | exact fun _ _ _ h => hQ2 _ _ _ _ _ h) ?_
    rotate_left
    · intro W hSW
      replace hSW : True := hSW
      simp only [getElem_toArray, getElem_cons_zero, getElem_cons_succ]
      (try dsimp only at hSW)
      go_simp
      with_reducible rfl
    (try simp only [getElem_toArray, getElem_cons_zero, getElem_cons_succ, Act.put, setIfInBounds_toArray, set_cons_zero, set_cons_succ])
    refine wpAnyK_take 14 (v := ?_) (by first | exact hF | exact wideFn) trivial rfl (by kernel_rfl) (by kernel_rfl) (by kernel_rfl) (by kernel_rfl) rfl ?_ (by first | exact fun _ _ _ h => h | exact fun _ _ _ h => hQ2 _ _ _ _ _ h) ?_
    rotate_left
    · intro W hSW
      replace hSW : True := hSW
      simp only [getElem_toArray, getElem_cons_zero, getElem_cons_succ]
      (try dsimp only at hSW)
      go_simp
      with_reducible rfl
    (try simp only [getElem_toArray, getElem_cons_zero, getElem_cons_succ, Act.put, setIfInBounds_toArray, set_cons_zero, set_cons_succ])
    rw [HAS.out]
    refine wpAnyK_one 15 rfl (by kernel_rfl) (fun K hK => ?_)
    rw [if_pos (by rfl)]
    refine wpIn_append_run (.tmp 8) (.tmp 18) 22 (by first | exact hF | exact wideFn) rfl rfl rfl HRUN.out ?_
    refine hK.out _ _ (.inr (pickS_all HS1.out trivial)) ?_
    clear hK K
    (try simp only [getElem_toArray, getElem_cons_zero, getElem_cons_succ, Act.put, setIfInBounds_toArray, set_cons_zero, set_cons_succ])
    refine wpAnyK_take 16 (v := ?_) (by first | exact hF | exact wideFn) trivial rfl (by kernel_rfl) (by kernel_rfl) (by kernel_rfl) (by kernel_rfl) rfl ?_ (by first | exact fun _ _ _ h => h | exact fun _ _ _ h => hQ2 _ _ _ _ _ h) ?_
    rotate_left
    · intro W hSW
      replace hSW : True := hSW
      simp only [getElem_toArray, getElem_cons_zero, getElem_cons_succ]
      (try dsimp only at hSW)
      go_simp
      with_reducible rfl
    (try simp only [getElem_toArray, getElem_cons_zero, getElem_cons_succ, Act.put, setIfInBounds_toArray, set_cons_zero, set_cons_succ])
    refine wpAnyK_take 17 (v := ?_) (by first | exact hF | exact wideFn) trivial rfl (by kernel_rfl) (by kernel_rfl) (by kernel_rfl) (by kernel_rfl) rfl ?_ (by first | exact fun _ _ _ h => h | exact fun _ _ _ h => hQ2 _ _ _ _ _ h) ?_
    rotate_left
    · intro W hSW
      replace hSW : True := hSW
      simp only [getElem_toArray, getElem_cons_zero, getElem_cons_succ]
      (try dsimp only at hSW)
      go_simp
      with_reducible rfl
    (try simp only [getElem_toArray, getElem_cons_zero, getElem_cons_succ, Act.put, setIfInBounds_toArray, set_cons_zero, set_cons_succ])
    have c1 := HS1.out.2.1
    have c2 := HS1.out.2.2
    refine wpAnyK_one 18 rfl (by kernel_rfl) (fun K hK => ?_)
    simp only [getElem_toArray, getElem_cons_zero, getElem_cons_succ]
    go_simp
    refine hK.out _ _ (.inr (pickS_need (by kernel_rfl) trivial)) ?_
    clear hK K
    (try simp only [getElem_toArray, getElem_cons_zero, getElem_cons_succ, Act.put, setIfInBounds_toArray, set_cons_zero, set_cons_succ])
    refine wpAnyK_done (by kernel_rfl) ?_
    go_wp2_with fail
    go_end0
    obtain ⟨B2, ho, hg, hrow⟩ := HB2.out
    refine ⟨.slice A' ln c', rfl, ⟨((HXD.out.below.grown hg HXD.out.below.size (fun k hk => (World.ownsRow.lt HXD.out.own k hk).1)).setCell HXD.out.lo _).setCell HXD.out.lo _, HXD.out.lo, ?_, ?_⟩, ((HKD.out.grown hg).set 2 _).set 1 _, hrow.imp id (fun h k hk => ?_)⟩
    · have h := (B2.set_ 2 (.slice A' ln c')).set_ 1 (.int .i64 t)
      exact h
    · have h1 := World.ownsRow.kept ho (grownBy_setC w' X 2 (.slice A' ln c')) (.inr (own_blk_ne ho B2 (by decide)))
      exact World.ownsRow.kept h1 (grownBy_setC _ X 1 (.int .i64 t)) (.inr (own_blk_ne h1 (B2.set_ 2 _) (by decide)))
    · rw [h] at hk
      injection hk with hk
      omega
end Go.Proofs.YtmpegkojencbjaaDoor
