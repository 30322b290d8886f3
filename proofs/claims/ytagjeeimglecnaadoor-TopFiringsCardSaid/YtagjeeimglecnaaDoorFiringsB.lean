/- Contracts of chapter 8 on the book: Fire. -/
import Derived.Test.YtagjeeimglecnaaDoorFiringsA
import Derived.Lib.MinMax
import Derived.Shelf.Strings.SlTrimAscii
import Derived.Ground.NamesProg
import Derived.Test.YtagjeeimglecnaaDoorChecked
import Derived.Lib.AppendZeros
import Derived.Maps.AppendAt
import Derived.Laws.BitsLemmas
import Derived.Lib.TrailingZeros
set_option linter.unusedSimpArgs false
set_option linter.unusedVariables false
set_option linter.unnecessarySimpa false
namespace Go.Proofs.YtagjeeimglecnaaDoor
open List renaming getElem_toArray → glA, getElem_cons_zero → glB, getElem_cons_succ → glC, setIfInBounds_toArray → glD, set_cons_zero → glE, set_cons_succ → glF
open Go Go.RowKit Go.Shelf
set_option maxHeartbeats 2000000
set_option maxRecDepth 100000
/-- the error of the i-th batch behind those ahead of it -/
def batE (n : Nat) (ws : Nat → Wa) (x y : Nat → Int) (i : Nat) : Int :=
  if ¬ (0 ≤ x i ∧ x i ≤ (n : Int) - 1) then 7 else if anyTo (fun j => decide (x j = x i)) i = true then 6 else if ¬ (1 ≤ y i ∧ y i ≤ 1000000000) then 2 else if (ws (x i).toNat).dry < y i then 9 else 0
/-- the error of the first of k batches that has one -/
def batsE (n : Nat) (ws : Nat → Wa) (x y : Nat → Int) : Nat → Int
  | 0 => 0
  | k + 1 => if batsE n ws x y k ≠ 0 then batsE n ws x y k else batE n ws x y k
theorem batsE_zero {n : Nat} {ws : Nat → Wa} {x y : Nat → Int} {k : Nat} (h : batsE n ws x y k = 0) (h' : batE n ws x y k = 0) : batsE n ws x y (k + 1) = 0 := by
  show (if batsE n ws x y k ≠ 0 then batsE n ws x y k else batE n ws x y k) = 0
  rw [if_neg (by omega)]; exact h'
theorem batsE_first {n : Nat} {ws : Nat → Wa} {x y : Nat → Int} {k c : Nat} (h : batsE n ws x y k = 0) (h' : batE n ws x y k = c) (hc : c ≠ 0) : ∀ m, k < m → batsE n ws x y m = c
  | 0, hm => absurd hm (by omega)
  | m + 1, hm => by
    show (if batsE n ws x y m ≠ 0 then batsE n ws x y m else batE n ws x y m) = c
    by_cases e : k = m
    · subst e
      rw [if_neg (by omega)]; exact h'
    · have := batsE_first h h' hc m (by omega)
      rw [if_pos (by omega)]; exact this
/-- the room that k batches take -/
def spaceTo (sp : Nat → Int) (x y : Nat → Int) : Nat → Int
  | 0 => 0
  | k + 1 => spaceTo sp x y k + y k * sp (x k).toNat
theorem batsE_all {n : Nat} {ws : Nat → Wa} {x y : Nat → Int} : ∀ {m : Nat}, batsE n ws x y m = 0 → ∀ k, k < m → batE n ws x y k = 0
  | 0, _, k, hk => absurd hk (by omega)
  | m + 1, h, k, hk => by
    have h1 : (if batsE n ws x y m ≠ 0 then batsE n ws x y m else batE n ws x y m) = 0 := h
    by_cases e : batsE n ws x y m = 0
    · rw [if_neg (by omega)] at h1
      by_cases e' : k = m
      · subst e'; exact h1
      · exact batsE_all e k (by omega)
    · rw [if_pos e] at h1
      exact absurd h1 e
theorem batE_ok {n : Nat} {ws : Nat → Wa} {x y : Nat → Int} {k : Nat} (h : batE n ws x y k = 0) : ∃ K : Nat, x k = K ∧ K < n ∧ (∀ j, j < k → x j ≠ x k) ∧ 1 ≤ y k ∧ y k ≤ 1000000000 ∧ y k ≤ (ws K).dry := by
  unfold batE at h
  by_cases h1 : 0 ≤ x k ∧ x k ≤ (n : Int) - 1
  · rw [if_neg (by omega)] at h
    by_cases h2 : anyTo (fun j => decide (x j = x k)) k = true
    · rw [if_pos h2] at h; omega
    · rw [if_neg h2] at h
      by_cases h3 : 1 ≤ y k ∧ y k ≤ 1000000000
      · rw [if_neg (by omega)] at h
        by_cases h4 : (ws (x k).toNat).dry < y k
        · rw [if_pos h4] at h; omega
        · exact ⟨(x k).toNat, by omega, by omega, fun j hj e => h2 ((anyTo_iff _ _).2 ⟨j, hj, by simp [e]⟩), h3.1, h3.2, by omega⟩
      · rw [if_pos h3] at h; omega
  · rw [if_pos h1] at h; omega
/-- the stores behind k batches -/
def fireW (ws : Nat → Wa) (x y : Nat → Int) : Nat → Nat → Wa
  | 0 => ws
  | k + 1 => upd (fireW ws x y k) (x k).toNat (((fireW ws x y k (x k).toNat).put 1 ((fireW ws x y k (x k).toNat).dry - y k)).put 2 ((fireW ws x y k (x k).toNat).burning + y k))
theorem fireW_far {ws : Nat → Wa} {x y : Nat → Int} {K : Nat} : ∀ {k : Nat}, (∀ j, j < k → (x j).toNat ≠ K) → fireW ws x y k K = ws K
  | 0, _ => rfl
  | k + 1, h => by
    show upd (fireW ws x y k) (x k).toNat _ K = ws K
    rw [upd_ne _ _ (fun e => h k (by omega) e.symm)]
    exact fireW_far fun j hj => h j (by omega)
/-- only the stores and the book have changed -/
def Apart (w w' : World) (S b : Nat) : Prop := w'.os = w.os ∧ w'.tape = w.tape ∧ w'.output = w.output ∧ w.heap.size ≤ w'.heap.size ∧ ∀ j, j < w.heap.size → j ≠ S → j ≠ b → w'.heap[j]? = w.heap[j]?
theorem Apart.of_below {w w' : World} {S b : Nat} (h : Below w.heap.size w w') : Apart w w' S b := ⟨h.os, h.tape, h.output, h.size, fun j hj _ _ => h.block j hj⟩
theorem Apart.then {w w1 w' : World} {S b : Nat} (h : Apart w w1 S b) {row : Option Nat} (hg : w1.grownBy w' row) (hr : ∀ j, row = some j → j = S ∨ j = b ∨ w.heap.size ≤ j) : Apart w w' S b := by
  obtain ⟨h1, h2, h3, h4, h5⟩ := h
  refine ⟨hg.os.trans h1, hg.tape.trans h2, hg.output.trans h3, Nat.le_trans h4 hg.size, fun j hj hS hb => ?_⟩
  refine (hg.block j (by omega) (fun e => ?_)).trans (h5 j hj hS hb)
  rcases hr j e.symm with h | h | h <;> omega
theorem Apart.cell {w w' : World} {S b : Nat} (h : Apart w w' S b) {p : Addr} (hp : p.block < w.heap.size) (hS : p.block ≠ S) (hb : p.block ≠ b) : w'.cell? p = w.cell? p := World.cell?_of_block (w := w) (h.2.2.2.2 p.block hp hS hb)
def FirePost (n m : Nat) (room : Int) (sp : Nat → Int) (ws : Nat → Wa) (x y : Nat → Int) (b S : Nat) (spv : Value) (w : World) (e : Ending) (w' : World) : Prop :=
  (batsE n ws x y m ≠ 0 ∧ e = .returned (.int .i64 (batsE n ws x y m)) ∧ Below w.heap.size w w') ∨ (batsE n ws x y m = 0 ∧ room < spaceTo sp x y m ∧ e = .returned (.int .i64 8) ∧ Below w.heap.size w w') ∨ (batsE n ws x y m = 0 ∧ spaceTo sp x y m ≤ room ∧ e = .returned (.int .i64 0) ∧ ∃ ov, Blk w' b 81 #[spv, .int .i64 room, .slice (some ⟨S, 0, none⟩) n n, ov] ∧ w'.ownsRow w.heap.size 3 1 ov m (cellsOf 1 m fun j _ => .int .i64 (x j)) ∧ Stores w' S n (fireW ws x y m) ∧ Apart w w' S b)
theorem fire_any (b S n m c ab aoff sb soff sc : Nat) (room : Int) (sp : Nat → Int) (ws : Nat → Wa) (x y : Nat → Int) (w : World) (hbk : Blk w b 81 #[.slice (some ⟨sb, soff, none⟩) n sc, .int .i64 room, .slice (some ⟨S, 0, none⟩) n n, .slice none 0 0]) (hn1 : 1 ≤ n) (hn : n ≤ 20) (hS : Stores w S n ws) (ho : ∀ k, k < n → OkW (ws k)) (hsp : IR w w.heap.size (some ⟨sb, soff, none⟩) n sp) (hspb : ∀ k, k < n → 1 ≤ sp k ∧ sp k ≤ 1000) (habS : ab ≠ S) (habb : ab ≠ b) (hm1 : 1 ≤ m) (hm : m ≤ 20) (hR : PI w w.heap.size (some ⟨ab, aoff, none⟩) m x y) (hx : ∀ i, i < m → inInt (x i)) : Calls Tryd.prog 11 #[.pointer (some ⟨b, 0, none⟩), .slice (some ⟨ab, aoff, none⟩) m c] w (FirePost n m room sp ws x y b S (.slice (some ⟨sb, soff, none⟩) n sc) w) := by
  have HHAS := hide (fun (kind : Int) W (h : Below w.heap.size w W) => khas_any b S n _ _ room kind W (hbk.ext h) hn hn1)
  have HBK := hide hbk
  have HST := hide hS
  have HOK := hide ho
  have HSP := hide hsp
  have HSB := hide hspb
  have HR := hide hR
  have HX := hide hx
  clear hbk hS ho hsp hspb hR hx
  have m2 : ¬ (m : Int) = 0 := by omega
  have m3 : ¬ 20 < (m : Int) := by omega
  have hmm := @run_makeMap Tryd.prog
  go_enter Tryd.func11, Tryd.ntmps11
  obtain ⟨g1, c0, c1, c2, c3⟩ := bx4 HBK.out
  go_wp2_with fail
  clear g1 c0 c1 c2 c3 hmm
  go_loopw [5, 33] (fun s i wr => ∃ k : Nat, i = .int .i64 k ∧ k ≤ m ∧ s = .int .i64 (spaceTo sp x y k) ∧ Hid (batsE n ws x y k = 0) ∧ Hid (0 ≤ spaceTo sp x y k ∧ spaceTo sp x y k ≤ k * 1000000000000) ∧ Hid (SeenAt wr w.heap.size k (fun z => anyTo (fun j => decide (x j = z)) k)) ∧ Hid (Below w.heap.size w wr)) (fun _ i _ => m - (intOf i).toNat)
  case atStart => exact ⟨0, rfl, by omega, rfl, hide rfl, hide ⟨by unfold spaceTo; omega, by unfold spaceTo; omega⟩, hide (SeenAt.made w), hide ((Below.refl _ w).alloc (Nat.le_refl _) _)⟩
  case round =>
    obtain ⟨k, rfl, hk, rfl, HE0, HSB2, HSEEN, HB⟩ := hrel
    by_cases hlt : k < m
    · obtain ⟨b', off', he, hb', hc1, hc2⟩ := PI.at_ (P2.below HR.out HB.out (Nat.le_refl _)) hlt
      injection he with he
      injection he with h1 h2
      subst h1 h2
      have hz : ab < wr.heap.size := by have := HB.out.size; omega
      have i1 : (0 : Int) ≤ (k : Int) := by omega
      have i2 : (k : Int) < (m : Int) := by omega
      go_wp2_with fail
      refine (HHAS.out (x k) _ (HB.out.alloc HB.out.size _)).mono ?_
      rintro e w1 ⟨rfl, hb1⟩
      have X1 := hide ((Blk.new wr 43 #[.int .i64 (x k), .int .i64 (y k)]).ext hb1)
      have HSEEN1 := hide ((HSEEN.out.alloc (.cells #[.int .i64 (x k), .int .i64 (y k)] 43)).ext hb1)
      have B1 := hide ((HB.out.alloc HB.out.size (.cells #[.int .i64 (x k), .int .i64 (y k)] 43)).trans (hb1.mono (HB.out.alloc HB.out.size _).size))
      clear hb1 hc1 hc2 hz hb'
      by_cases hk1 : 0 ≤ x k ∧ x k ≤ (n : Int) - 1
      · rw [decide_eq_true hk1]
        have hlk := seen_look HSEEN1.out (HX.out k hlt)
        cases hq : anyTo (fun j => decide (x j = x k)) k
        · rw [hq] at hlk
          obtain ⟨eXl, eX0, eX1⟩ := bx2 X1.out
          go_wp2_with fail
          refine (kwithin_any 1 1000000000 _ 1 1 (fun _ => y k) _ (by decide) ?_).mono ?_
          · simpa using IR.one w1 (y k) 3
          rw [wiB_one]
          rintro e w2 ⟨rfl, hb2⟩
          have z1 := B1.out.size
          have zX := X1.out.lt
          have B2 := hide ((B1.out.alloc z1 (.cells #[.int .i64 (y k)] 3)).trans (hb2.mono (by simp only [World.size_alloc]; omega)))
          have X2 := hide ((X1.out.alloc (.cells #[.int .i64 (y k)] 3)).below hb2 (by simp only [World.size_alloc]; omega))
          have HSEEN2 := hide ((HSEEN1.out.alloc (.cells #[.int .i64 (y k)] 3)).kept (grown_none (hb2.mono (Nat.le_refl _))) (by simp))
          clear hb2 hlk
          clear eXl eX0 eX1
          by_cases hy : 1 ≤ y k ∧ y k ≤ 1000000000
          · rw [decide_eq_true hy]
            obtain ⟨K, hK⟩ : ∃ K : Nat, x k = K := ⟨(x k).toNat, by omega⟩
            have hKn : K < n := by omega
            have hbe : batE n ws x y k = if (ws K).dry < y k then 9 else 0 := by
              unfold batE
              rw [if_neg (by omega), if_neg (by rw [hq]; decide), if_neg (by omega), hK, Int.toNat_natCast]
            have hKi : inInt (K : Int) := hK ▸ HX.out k hlt
            have i3 : (0 : Int) ≤ (K : Int) := by omega
            have i4 : (K : Int) < (n : Int) := by omega
            go_wp2_with fail
            rw [hK] at X2
            have HSA : Hid ((fun W : World => (W.cell? ⟨b, 2, none⟩ = some (.slice (some ⟨S, 0, none⟩) n n) ∧ W.cell? ⟨wr.heap.size, 0, none⟩ = some (.int .i64 K) ∧ W.cell? ⟨wr.heap.size, 1, none⟩ = some (.int .i64 (y k))) ∧ W.cell? ⟨S, K * 7 + 1, none⟩ = some (.int .i64 (ws K).dry)) w2.drew) := hide ⟨⟨(bx4 (HBK.out.ext B2.out)).2.2.2.1, (bx2 X2.out).2⟩, (B2.out.cell (p := ⟨S, K * 7 + 1, none⟩) (HST.out.lt)).trans (HST.out.2 K hKn).2.2.2.1⟩
            by_cases hd : (ws K).dry < y k
            · refine wp_region_J (fun W : World => (W.cell? ⟨b, 2, none⟩ = some (.slice (some ⟨S, 0, none⟩) n n) ∧ W.cell? ⟨wr.heap.size, 0, none⟩ = some (.int .i64 K) ∧ W.cell? ⟨wr.heap.size, 1, none⟩ = some (.int .i64 (y k))) ∧ W.cell? ⟨S, K * 7 + 1, none⟩ = some (.int .i64 (ws K).dry)) (by kernel_rfl) ?_
              refine tk_start [0, 1, 2, 3, 4, 5, 6, 7, 8, 9, 10, 11, 12, 13] ?_
              iterate 14
                refine tk_one (v := ?_) (by first | exact hF | exact wideFn) HSA.out rfl (by kernel_rfl) (by kernel_rfl) (by kernel_rfl) (by kernel_rfl) rfl ?_ (by first | exact fun _ _ _ h => h | exact fun _ _ _ h => hQ2 _ _ _ _ _ h) ?_
                rotate_left
                · intro W hSW
                  simp only [glA, glB, glC]
                  (try dsimp only at hSW)
                  go_simp
                  with_reducible rfl
                (try simp only [glA, glB, glC, Act.put, glD, glE, glF])
              refine tk_end ?_
              refine wpAnyJ_done (by kernel_rfl) ?_
              go_wp2_with fail
              have he := batsE_first (c := 9) HE0.out (show batE n ws x y k = ((9 : Nat) : Int) by rw [hbe, if_pos hd]; rfl) (by omega) m hlt
              go_ret
              exact .inl ⟨by rw [he]; decide, by rw [he]; rfl, B2.out.drew⟩
            · refine wp_region_J (fun W : World => (W.cell? ⟨b, 2, none⟩ = some (.slice (some ⟨S, 0, none⟩) n n) ∧ W.cell? ⟨wr.heap.size, 0, none⟩ = some (.int .i64 K) ∧ W.cell? ⟨wr.heap.size, 1, none⟩ = some (.int .i64 (y k))) ∧ W.cell? ⟨S, K * 7 + 1, none⟩ = some (.int .i64 (ws K).dry)) (by kernel_rfl) ?_
              refine tk_start [0, 1, 2, 3, 4, 5, 6, 7, 8, 9, 10, 11, 12, 13] ?_
              iterate 14
                refine tk_one (v := ?_) (by first | exact hF | exact wideFn) HSA.out rfl (by kernel_rfl) (by kernel_rfl) (by kernel_rfl) (by kernel_rfl) rfl ?_ (by first | exact fun _ _ _ h => h | exact fun _ _ _ h => hQ2 _ _ _ _ _ h) ?_
                rotate_left
                · intro W hSW
                  simp only [glA, glB, glC]
                  (try dsimp only at hSW)
                  go_simp
                  with_reducible rfl
                (try simp only [glA, glB, glC, Act.put, glD, glE, glF])
              refine tk_end ?_
              refine wpAnyJ_done (by kernel_rfl) ?_
              obtain ⟨w3, hrun3, hs3, hg3⟩ := seen_put (HSEEN2.out.drew) (by unfold maxLen; omega) hKi
              have zm : w.heap.size < wr.heap.size := HSEEN.out.lt
              have HS3 := hide hs3
              have B3 := hide (B2.out.drew.grown hg3 B2.out.size (fun j hj => by injection hj with hj; omega))
              have X3 := hide (X2.out.drew.grown hg3 (by intro hh; injection hh with hh; omega))
              clear hs3 hg3
              obtain ⟨eXl, eX0, eX1⟩ := bx2 X2.out
              go_wp2_with fail
              clear eXl eX0 eX1
              have HSP1 := hide (HSB.out K hKn)
              obtain ⟨p1, p2⟩ := HSP1.out
              have p3 : 0 ≤ y k * sp K := Int.mul_nonneg (by omega) (by omega)
              have p4 : y k * sp K ≤ 1000000000 * 1000 := Int.mul_le_mul hy.2 p2 (by omega) (by omega)
              obtain ⟨p5, p6⟩ := HSB2.out
              have hkk : (k : Int) * 1000000000000 ≤ 20 * 1000000000000 := Int.mul_le_mul_of_nonneg_right (by omega) (by omega)
              have Z1 := hide (show IntKind.i64.wrap (y k * sp K) = y k * sp K from IntWalk.i64_in _ (by omega))
              have Z2 := hide (show IntKind.i64.wrap (spaceTo sp x y k + y k * sp K) = spaceTo sp x y k + y k * sp K from IntWalk.i64_in _ (by omega))
              obtain ⟨sb', so', hse, hsb', hsc'⟩ := IR.at_ HSP.out hKn
              injection hse with hse
              injection hse with hs1 hs2
              subst hs1 hs2
              have HSB3 : Hid ((fun W : World => (W.cell? ⟨b, 0, none⟩ = some (.slice (some ⟨sb, soff, none⟩) n sc) ∧ W.cell? ⟨wr.heap.size, 0, none⟩ = some (.int .i64 K) ∧ W.cell? ⟨wr.heap.size, 1, none⟩ = some (.int .i64 (y k))) ∧ W.cell? ⟨sb, soff + K, none⟩ = some (.int .i64 (sp K))) w3.drew) := hide ⟨⟨(bx4 (HBK.out.ext B3.out)).2.1, (bx2 X3.out).2⟩, (B3.out.cell (p := ⟨sb, soff + K, none⟩) hsb').trans hsc'⟩
              clear hsc' HSA
              refine wp_region_J (fun W : World => (W.cell? ⟨b, 0, none⟩ = some (.slice (some ⟨sb, soff, none⟩) n sc) ∧ W.cell? ⟨wr.heap.size, 0, none⟩ = some (.int .i64 K) ∧ W.cell? ⟨wr.heap.size, 1, none⟩ = some (.int .i64 (y k))) ∧ W.cell? ⟨sb, soff + K, none⟩ = some (.int .i64 (sp K))) (by kernel_rfl) ?_
              refine tk_start [0, 1, 2, 3, 4, 5, 6, 7, 8, 9, 10, 11] ?_
              iterate 12
                refine tk_one (v := ?_) (by first | exact hF | exact wideFn) HSB3.out rfl (by kernel_rfl) (by kernel_rfl) (by kernel_rfl) (by kernel_rfl) rfl ?_ (by first | exact fun _ _ _ h => h | exact fun _ _ _ h => hQ2 _ _ _ _ _ h) ?_
                rotate_left
                · intro W hSW
                  simp only [glA, glB, glC]
                  (try dsimp only at hSW)
                  go_simp
                  with_reducible rfl
                (try simp only [glA, glB, glC, Act.put, glD, glE, glF])
              refine tk_end ?_
              rw [Z1.out]
              refine wpAnyJ_take 12 (v := ?_) (by first | exact hF | exact wideFn) HSB3.out rfl (by kernel_rfl) (by kernel_rfl) (by kernel_rfl) (by kernel_rfl) rfl ?_ (by first | exact fun _ _ _ h => h | exact fun _ _ _ h => hQ2 _ _ _ _ _ h) ?_
              rotate_left
              · intro W hSW
                simp only [glA, glB, glC]
                (try dsimp only at hSW)
                go_simp
                with_reducible rfl
              (try simp only [glA, glB, glC, Act.put, glD, glE, glF])
              rw [Z2.out]
              refine wpAnyJ_take 13 (v := ?_) (by first | exact hF | exact wideFn) HSB3.out rfl (by kernel_rfl) (by kernel_rfl) (by kernel_rfl) (by kernel_rfl) rfl ?_ (by first | exact fun _ _ _ h => h | exact fun _ _ _ h => hQ2 _ _ _ _ _ h) ?_
              rotate_left
              · intro W hSW
                simp only [glA, glB, glC]
                (try dsimp only at hSW)
                go_simp
                with_reducible rfl
              (try simp only [glA, glB, glC, Act.put, glD, glE, glF])
              refine wpAnyJ_done (by kernel_rfl) ?_
              clear HSB3
              go_wp2_with fail
              go_roundw
              case rel =>
                refine ⟨k + 1, by go_num, by omega, ?_, hide ?_, hide ?_, hide ?_, hide B3.out.drew⟩
                · show _ = Value.int .i64 (spaceTo sp x y k + y k * sp (x k).toNat)
                  rw [hK]; rfl
                · exact batsE_zero HE0.out (by rw [hbe, if_neg (by omega)])
                · show 0 ≤ spaceTo sp x y k + y k * sp (x k).toNat ∧ spaceTo sp x y k + y k * sp (x k).toNat ≤ _
                  rw [hK, Int.toNat_natCast]
                  constructor <;> (try push_cast) <;> omega
                · have hfe : (fun z => anyTo (fun j => decide (x j = z)) (k + 1)) = (fun z => decide (z = (K : Int)) || anyTo (fun j => decide (x j = z)) k) := funext fun z => by
                    show (anyTo (fun j => decide (x j = z)) k || decide (x k = z)) = _
                    rw [hK, Bool.or_comm]
                    congr 1
                    exact decide_eq_decide.2 ⟨fun h => h.symm, fun h => h.symm⟩
                  rw [hfe]
                  exact HS3.out.drew
              case measure => simp [intOf]; omega
          · rw [decide_eq_false hy]
            go_wp2_with fail
            have he := batsE_first HE0.out (show batE n ws x y k = (2 : Nat) by unfold batE; simp_all) (by omega) m hlt
            go_ret
            refine .inl ⟨by rw [he]; decide, by rw [he]; rfl, ?_⟩
            exact B2.out
        · rw [hq] at hlk
          obtain ⟨eXl, eX0, eX1⟩ := bx2 X1.out
          go_wp2_with fail
          have he := batsE_first HE0.out (show batE n ws x y k = (6 : Nat) by unfold batE; simp_all) (by omega) m hlt
          go_ret
          refine .inl ⟨by rw [he]; decide, by rw [he]; rfl, ?_⟩
          exact B1.out
      · rw [decide_eq_false hk1]
        go_wp2_with fail
        have he := batsE_first HE0.out (show batE n ws x y k = (7 : Nat) by unfold batE; simp_all) (by omega) m hlt
        go_ret
        refine .inl ⟨by rw [he]; decide, by rw [he]; rfl, ?_⟩
        exact B1.out
    · obtain rfl : k = m := by omega
      obtain ⟨g1, c0, c1, c2, c3⟩ := bx4 (HBK.out.ext HB.out)
      by_cases hroom : room < spaceTo sp x y k
      · go_wp2_with fail
        go_ret
        exact .inr (.inl ⟨HE0.out, hroom, rfl, HB.out⟩)
      · go_wp2_with fail
        clear g1 c0 c1 c2 c3
        obtain ⟨wo, rfl⟩ : ∃ wo : World, wo = wr := ⟨_, rfl⟩
        have AP := hide (Apart.of_below (S := S) (b := b) HB.out)
        have BK0 := hide (HBK.out.ext HB.out)
        have ST0 := hide (HST.out.below HB.out HST.out.lt)
        have OW0 : Hid (wo.ownsRow w.heap.size 3 1 (.slice none 0 0) 0 (cellsOf 1 0 fun j _ => .int .i64 (x j))) := hide ⟨by simp [cellsOf], .inl ⟨rfl, by simp [cellsOf]⟩⟩
        have HALL := hide (fun j hj => batE_ok (batsE_all HE0.out j hj))
        obtain ⟨i0, hi, hz0, hz1, hz2⟩ := info_parts info_int
        have HAPP := hide (fun (W : World) => @run_append_lies Tryd.prog W 34 34 w.heap.size 3 i0 _ 1 8 Tryd.underlying34 hi hz0 hz1 hz2 rfl (by omega))
        clear hi hz0 hz1 hz2
        go_loopw [93] (fun i wr => ∃ j : Nat, i = .int .i64 j ∧ j ≤ k ∧ ∃ ov, Hid (Blk wr b 81 #[.slice (some ⟨sb, soff, none⟩) n sc, .int .i64 room, .slice (some ⟨S, 0, none⟩) n n, ov]) ∧ Hid (wr.ownsRow w.heap.size 3 1 ov j (cellsOf 1 j fun j _ => .int .i64 (x j))) ∧ Hid (Stores wr S n (fireW ws x y j)) ∧ Hid (Apart w wr S b)) (fun i _ => k - (intOf i).toNat)
        case atStart => exact ⟨0, rfl, by omega, _, BK0, OW0, ST0, AP⟩
        case round =>
          obtain ⟨j, rfl, hjk, ov, BK, OW, ST, AQ⟩ := hrel
          clear BK0 OW0 ST0 AP
          by_cases hlt : j < k
          · obtain ⟨KK, hKK, hKn, hfar, y1, y2, y3⟩ := HALL.out j hlt
            have zw : w.heap.size ≤ wr.heap.size := AQ.out.2.2.2.1
            have hSl : S < w.heap.size := HST.out.lt
            have hbl : b < w.heap.size := HBK.out.lt
            obtain ⟨b', off', he, hb', hc1, hc2⟩ := PI.at_ HR.out hlt
            injection he with he
            injection he with h1 h2
            subst h1 h2
            have d1 : wr.cell? ⟨ab, aoff + j * 2, none⟩ = some (.int .i64 (x j)) := (AQ.out.cell (p := ⟨ab, aoff + j * 2, none⟩) hb' habS habb).trans hc1
            have d2 : wr.cell? ⟨ab, aoff + j * 2 + 1, none⟩ = some (.int .i64 (y j)) := (AQ.out.cell (p := ⟨ab, aoff + j * 2 + 1, none⟩) hb' habS habb).trans hc2
            rw [hKK] at d1
            have hz : ab < wr.heap.size := by omega
            have i1 : (0 : Int) ≤ (j : Int) := by omega
            have i2 : (j : Int) < (k : Int) := by omega
            have i3 : (0 : Int) ≤ (KK : Int) := by omega
            have i4 : (KK : Int) < (n : Int) := by omega
            clear hc1 hc2
            go_wp2_with fail
            clear d1 d2 hb' hz
            have X1 := hide (Blk.new wr 43 #[.int .i64 KK, .int .i64 (y j)])
            have BK1 := hide (BK.out.alloc (.cells #[.int .i64 KK, .int .i64 (y j)] 43))
            have ST1 := hide (Stores.alloc ST.out (.cells #[.int .i64 KK, .int .i64 (y j)] 43))
            have zx : wr.heap.size ≠ S := by omega
            have OW1 := hide (OW.out.alloc (.cells #[.int .i64 KK, .int .i64 (y j)] 43))
            have AQ1 := hide (AQ.out.then (World.grownBy_alloc wr (.cells #[.int .i64 KK, .int .i64 (y j)] 43) none) (fun _ h => by cases h))
            have hbS : b ≠ S := fun e => by
              obtain ⟨cs, hcs⟩ := HST.out.1
              exact HBK.out.ne_ hcs (by decide) e
            have hfw : fireW ws x y j KK = ws KK := fireW_far fun i hi => by
              obtain ⟨Ki, hKi, -⟩ := HALL.out i (by omega)
              have := hfar i hi
              rw [hKi, hKK] at this
              rw [hKi]
              omega
            have hz1 : (wr.alloc (.cells #[.int .i64 KK, .int .i64 (y j)] 43)).heap.size = wr.heap.size + 1 := by simp
            clear BK ST OW AQ HHAS HR HSP HSB HSEEN HB
            generalize hw1 : wr.alloc (.cells #[.int .i64 KK, .int .i64 (y j)] 43) = w1 at X1 BK1 ST1 OW1 AQ1 hz1 ⊢
            clear hw1
            have H29 : Hid ((fun W : World => W.cell? ⟨b, 2, none⟩ = some (.slice (some ⟨S, 0, none⟩) n n) ∧ W.cell? ⟨wr.heap.size, 0, none⟩ = some (.int .i64 KK)) w1.drew) := hide ⟨(bx4 BK1.out).2.2.2.1, (bx2 X1.out).2.1⟩
            refine wp_region_J (fun W : World => W.cell? ⟨b, 2, none⟩ = some (.slice (some ⟨S, 0, none⟩) n n) ∧ W.cell? ⟨wr.heap.size, 0, none⟩ = some (.int .i64 KK)) (by kernel_rfl) ?_
            refine tk_start [0, 1, 2, 3, 4, 5, 6, 7] ?_
            iterate 8
              refine tk_one (v := ?_) (by first | exact hF | exact wideFn) H29.out rfl (by kernel_rfl) (by kernel_rfl) (by kernel_rfl) (by kernel_rfl) rfl ?_ (by first | exact fun _ _ _ h => h | exact fun _ _ _ h => hQ2 _ _ _ _ _ h) ?_
              rotate_left
              · intro W hSW
                simp only [glA, glB, glC]
                (try dsimp only at hSW)
                go_simp
                with_reducible rfl
              (try simp only [glA, glB, glC, Act.put, glD, glE, glF])
            refine tk_end ?_
            refine wpAnyJ_done (by kernel_rfl) ?_
            have HKW : KindW w1 S (KK * 7) (ws KK) := by have := ST1.out.2 KK hKn; rw [hfw] at this; exact this
            obtain ⟨-, o2, o3, -, -, -, -, o8, -⟩ := HOK.out KK hKn
            obtain ⟨o1', -, -, o4', o5', o6', -, -, -⟩ := HOK.out KK hKn
            have HM := hide (move_ok (y j) (ws KK).dry (ws KK).burning S (KK * 7 + 1) (KK * 7 + 2) w1.drew.drew HKW.2.2.2.1 HKW.2.2.2.2.1 HKW.2.1 (by omega) y3 (by omega) (by omega) o3 (by omega))
            have H30 : Hid ((fun W : World => W.cell? ⟨wr.heap.size, 1, none⟩ = some (.int .i64 (y j))) w1.drew.drew) := hide (bx2 X1.out).2.2
            have H30' : Hid (∀ W, Below w1.heap.size (mv w1 S (KK * 7 + 1) (KK * 7 + 2) ((ws KK).dry - y j) ((ws KK).burning + y j)) W → W.cell? ⟨wr.heap.size, 1, none⟩ = some (.int .i64 (y j))) := hide (fun W h => (h.cell (p := ⟨wr.heap.size, 1, none⟩) X1.out.lt).trans ((mv_far zx).trans (bx2 X1.out).2.2))
            clear HKW o2 o3 o8 o1' o4' o5' o6' H29
            go_wp2_with fail
            refine wp_region_J (fun W : World => W.cell? ⟨wr.heap.size, 1, none⟩ = some (.int .i64 (y j))) (by kernel_rfl) ?_
            refine tk_start [0, 1, 2, 3, 4, 5, 6, 7, 8, 9] ?_
            iterate 10
              refine tk_one (v := ?_) (by first | exact hF | exact wideFn) H30.out rfl (by kernel_rfl) (by kernel_rfl) (by kernel_rfl) (by kernel_rfl) rfl ?_ (by first | exact fun _ _ _ h => h | exact fun _ _ _ h => hQ2 _ _ _ _ _ h) ?_
              rotate_left
              · intro W hSW
                simp only [glA, glB, glC]
                (try dsimp only at hSW)
                go_simp
                with_reducible rfl
              (try simp only [glA, glB, glC, Act.put, glD, glE, glF])
            refine tk_end ?_
            refine wpAnyJ_one 10 rfl (by kernel_rfl) (fun K hK => ?_)
            simp only [glA, glB, glC]
            go_simp
            refine ⟨trivial, rfl, ?_⟩
            refine (callsIn_wide.2 HM.out).mono ?_
            rintro e w2 ⟨rfl, hb2⟩
            have hb2' : Below w1.heap.size (mv w1 S (KK * 7 + 1) (KK * 7 + 2) ((ws KK).dry - y j) ((ws KK).burning + y j)) w2 := ⟨hb2.os, hb2.tape, hb2.output, hb2.size, hb2.block⟩
            dsimp only
            refine hK.out _ _ (fun _ => H30'.out _ hb2') ?_
            clear hK K
            (try simp only [glA, glB, glC, Act.put, glD, glE, glF])
            refine wpAnyJ_done (by kernel_rfl) ?_
            clear hb2 HM H30 H30'
            have hf1 : (fun i => fireW ws x y (j + 1) i) = upd (upd (fireW ws x y j) KK ((fireW ws x y j KK).put 1 ((ws KK).dry - y j))) KK ((upd (fireW ws x y j) KK ((fireW ws x y j KK).put 1 ((ws KK).dry - y j)) KK).put 2 ((ws KK).burning + y j)) := by
              rw [upd_upd, upd_same]
              funext i
              show upd (fireW ws x y j) (x j).toNat _ i = _
              rw [hKK, Int.toNat_natCast, hfw]
            have hst2 : Stores (mv w1 S (KK * 7 + 1) (KK * 7 + 2) ((ws KK).dry - y j) ((ws KK).burning + y j)) S n (fireW ws x y (j + 1)) := by
              have := (ST1.out.set (k := KK) (i := 1) hKn (by omega) ((ws KK).dry - y j)).set (k := KK) (i := 2) hKn (by omega) ((ws KK).burning + y j)
              rw [← hf1] at this
              exact this
            obtain ⟨hst3, g12⟩ := turn_of (w := w1) hst2 (grownBy_setS (grownBy_setS (World.grownBy.refl w1 _) _ _) _ _) (size_mv _ _ _ _ _ _) hb2'
            have ST2 := hide hst3
            have BK2 := hide (BK1.out.grown g12 (fun e => hbS (by injection e)))
            have OW2 := hide (OW1.out.kept g12 (.inr fun e => by have := (OW1.out.lt _ e).1; omega))
            have X2 := hide (X1.out.grown g12 (fun e => zx (by injection e)))
            have AQ2 := hide (AQ1.out.then g12 (fun i h => by injection h with h; exact .inl h.symm))
            have z2 : wr.heap.size + 1 ≤ w2.heap.size := by have := g12.size; omega
            clear hb2' hst2 hst3 g12 hf1 X1 BK1 ST1 OW1 AQ1
            have A3 := hide (Blk.new w2.drew 3 #[.int .i64 (KK : Int)])
            obtain ⟨g, cap, w3, hrun3, hown3, hg3, hgor, hlt3⟩ := HAPP.out (w2.drew.alloc (.cells #[.int .i64 KK] 3)) ov j (cellsOf 1 j fun j _ => .int .i64 (x j)) (OW2.out.alloc _) ⟨w2.drew.heap.size, 0, none⟩ 1 1 [.int .i64 (KK : Int)] rfl
              (fun i u hu => by
                match i, hu with
                | 0, hu => have := (bx1 A3.out).2; simp at hu; subst hu; simpa [Addr.add] using this
                | i + 1, hu => simp at hu)
              (fun u hu => by simp at hu; subst hu; rfl) (by omega) (by unfold maxLen; omega) (by omega) (by simp; omega) _ rfl
            have hown4 : w3.ownsRow w.heap.size 3 1 (.slice (some ⟨g, 0, none⟩) (j + 1) cap) (j + 1) (cellsOf 1 (j + 1) fun j _ => .int .i64 (x j)) := by
              have e : cellsOf 1 (j + 1) (fun j _ => Value.int .i64 (x j)) = cellsOf 1 j (fun j _ => Value.int .i64 (x j)) ++ [Value.int .i64 (KK : Int)] := by
                simp [cellsOf, List.range_succ, hKK]
              rw [e]; exact hown3
            have zo : ∀ i, ov.ownBlock = some i → w.heap.size ≤ i := fun i hi => (OW2.out.lt _ hi).1
            have zg : w.heap.size ≤ g := by
              rcases hgor with h | h
              · exact zo _ h
              · rw [h]; simp; omega
            have BK3 := hide ((BK2.out.drew.alloc (.cells #[.int .i64 KK] 3)).grown hg3 (fun e => by have := zo _ e.symm; omega))
            have ST3 := hide (Stores.grown (Stores.alloc (w := w2.drew) (by exact ST2.out) (.cells #[.int .i64 KK] 3)) hg3 (fun e => by have := zo _ e.symm; omega))
            have AQ3 := hide (((show Apart w w2.drew S b from AQ2.out).then (World.grownBy_alloc w2.drew (.cells #[.int .i64 KK] 3) none) (fun _ h => by cases h)).then hg3 (fun i h => .inr (.inr (zo i h))))
            have gst : w3.grownBy (w3.setCell ⟨b, 3, none⟩ (.slice (some ⟨g, 0, none⟩) (j + 1) cap)) (some b) := grownBy_setS (World.grownBy.refl w3 _) _ _
            have BK4 : Hid (Blk (w3.setCell ⟨b, 3, none⟩ (.slice (some ⟨g, 0, none⟩) (j + 1) cap)) b 81 #[.slice (some ⟨sb, soff, none⟩) n sc, .int .i64 room, .slice (some ⟨S, 0, none⟩) n n, (.slice (some ⟨g, 0, none⟩) (j + 1) cap)]) := hide (BK3.out.set_ 3 _)
            have OW4 := hide (hown4.kept gst (.inr fun e => by have e' : g = b := Option.some.inj e; omega))
            have ST4 := hide (Stores.grown ST3.out gst (fun e => hbS (by injection e with e; exact e.symm)))
            have AQ4 := hide (AQ3.out.then gst (fun i h => by injection h with h; exact .inr (.inl h.symm)))
            obtain ⟨b0, b1, b2, b3, b4⟩ := bx4 BK2.out
            obtain ⟨e0, e1, e2⟩ := bx2 X2.out
            obtain ⟨f0, f1, f2, f3, f4⟩ := bx4 BK3.out
            have f5 := BK3.out.frozen 3
            clear hown3 hown4 hg3 hgor gst OW2 ST2 AQ2 A3 HAPP HALL HOK HX HBK HST
            go_wp2_with fail
            refine wp_region_J (fun _ : World => True) (by kernel_rfl) ?_
            refine tk_start [0, 1, 2, 3, 5] ?_
            iterate 5
              refine tk_one (v := ?_) (by first | exact hF | exact wideFn) trivial rfl (by kernel_rfl) (by kernel_rfl) (by kernel_rfl) (by kernel_rfl) rfl ?_ (by first | exact fun _ _ _ h => h | exact fun _ _ _ h => hQ2 _ _ _ _ _ h) ?_
              rotate_left
              · intro W hSW
                simp only [glA, glB, glC]
                (try dsimp only at hSW)
                go_simp
                with_reducible rfl
              (try simp only [glA, glB, glC, Act.put, glD, glE, glF])
            refine tk_end ?_
            have hF : ∀ f, Fence.wide.fn f := wideFn
            refine wpAnyJ_two 4 6 rfl rfl (by kernel_rfl) (fun K hK => ?_) (fun K hK => ?_)
            · simp only [glA, glB, glC]
              go_simp
              refine hK.out _ _ (fun _ => trivial) ?_
              clear hK K
              (try simp only [glA, glB, glC, Act.put, glD, glE, glF])
              refine wpAnyJ_one 6 rfl (by kernel_rfl) (fun K hK => ?_)
              simp only [glA, glB, glC]
              go_simp
              refine hK.out _ _ (fun _ => trivial) ?_
              clear hK K
              (try simp only [glA, glB, glC, Act.put, glD, glE, glF])
              refine wpAnyJ_one 7 rfl (by kernel_rfl) (fun K hK => ?_)
              simp only [glA, glB, glC]
              go_simp
              refine hK.out _ _ (fun _ => trivial) ?_
              clear hK K
              (try simp only [glA, glB, glC, Act.put, glD, glE, glF])
              refine wpAnyJ_one 8 rfl (by kernel_rfl) (fun K hK => ?_)
              rw [if_pos (by rfl)]
              refine wpIn_append_run (.tmp 119) (.tmp 122) 34 (by first | exact hF | exact wideFn) rfl rfl rfl hrun3 ?_
              refine hK.out _ _ (fun _ => trivial) ?_
              clear hK K
              (try simp only [glA, glB, glC, Act.put, glD, glE, glF])
              refine wpAnyJ_take 9 (v := ?_) (by first | exact hF | exact wideFn) trivial rfl (by kernel_rfl) (by kernel_rfl) (by kernel_rfl) (by kernel_rfl) rfl ?_ (by first | exact fun _ _ _ h => h | exact fun _ _ _ h => hQ2 _ _ _ _ _ h) ?_
              rotate_left
              · intro W hSW
                simp only [glA, glB, glC]
                (try dsimp only at hSW)
                go_simp
                with_reducible rfl
              (try simp only [glA, glB, glC, Act.put, glD, glE, glF])
              refine wpAnyJ_take 10 (v := ?_) (by first | exact hF | exact wideFn) trivial rfl (by kernel_rfl) (by kernel_rfl) (by kernel_rfl) (by kernel_rfl) rfl ?_ (by first | exact fun _ _ _ h => h | exact fun _ _ _ h => hQ2 _ _ _ _ _ h) ?_
              rotate_left
              · intro W hSW
                simp only [glA, glB, glC]
                (try dsimp only at hSW)
                go_simp
                with_reducible rfl
              (try simp only [glA, glB, glC, Act.put, glD, glE, glF])
              refine wpAnyJ_one 11 rfl (by kernel_rfl) (fun K hK => ?_)
              simp only [glA, glB, glC]
              go_simp
              refine hK.out _ _ (fun _ => trivial) ?_
              clear hK K
              (try simp only [glA, glB, glC, Act.put, glD, glE, glF])
              refine wpAnyJ_done (by kernel_rfl) ?_
              go_wp2_with fail
              go_roundw
              case rel => exact ⟨j + 1, by go_num, by omega, _, BK4, OW4, ST4, AQ4⟩
              case measure => simp [intOf]; omega
            · simp only [glA, glB, glC]
              go_simp
              refine hK.out _ _ (fun _ => trivial) ?_
              clear hK K
              (try simp only [glA, glB, glC, Act.put, glD, glE, glF])
              refine wpAnyJ_two 4 7 rfl rfl (by kernel_rfl) (fun K hK => ?_) (fun K hK => ?_)
              · simp only [glA, glB, glC]
                go_simp
                refine hK.out _ _ (fun _ => trivial) ?_
                clear hK K
                (try simp only [glA, glB, glC, Act.put, glD, glE, glF])
                refine wpAnyJ_one 7 rfl (by kernel_rfl) (fun K hK => ?_)
                simp only [glA, glB, glC]
                go_simp
                refine hK.out _ _ (fun _ => trivial) ?_
                clear hK K
                (try simp only [glA, glB, glC, Act.put, glD, glE, glF])
                refine wpAnyJ_one 8 rfl (by kernel_rfl) (fun K hK => ?_)
                rw [if_pos (by rfl)]
                refine wpIn_append_run (.tmp 119) (.tmp 122) 34 (by first | exact hF | exact wideFn) rfl rfl rfl hrun3 ?_
                refine hK.out _ _ (fun _ => trivial) ?_
                clear hK K
                (try simp only [glA, glB, glC, Act.put, glD, glE, glF])
                refine wpAnyJ_take 9 (v := ?_) (by first | exact hF | exact wideFn) trivial rfl (by kernel_rfl) (by kernel_rfl) (by kernel_rfl) (by kernel_rfl) rfl ?_ (by first | exact fun _ _ _ h => h | exact fun _ _ _ h => hQ2 _ _ _ _ _ h) ?_
                rotate_left
                · intro W hSW
                  simp only [glA, glB, glC]
                  (try dsimp only at hSW)
                  go_simp
                  with_reducible rfl
                (try simp only [glA, glB, glC, Act.put, glD, glE, glF])
                refine wpAnyJ_take 10 (v := ?_) (by first | exact hF | exact wideFn) trivial rfl (by kernel_rfl) (by kernel_rfl) (by kernel_rfl) (by kernel_rfl) rfl ?_ (by first | exact fun _ _ _ h => h | exact fun _ _ _ h => hQ2 _ _ _ _ _ h) ?_
                rotate_left
                · intro W hSW
                  simp only [glA, glB, glC]
                  (try dsimp only at hSW)
                  go_simp
                  with_reducible rfl
                (try simp only [glA, glB, glC, Act.put, glD, glE, glF])
                refine wpAnyJ_one 11 rfl (by kernel_rfl) (fun K hK => ?_)
                simp only [glA, glB, glC]
                go_simp
                refine hK.out _ _ (fun _ => trivial) ?_
                clear hK K
                (try simp only [glA, glB, glC, Act.put, glD, glE, glF])
                refine wpAnyJ_done (by kernel_rfl) ?_
                go_wp2_with fail
                go_roundw
                case rel => exact ⟨j + 1, by go_num, by omega, _, BK4, OW4, ST4, AQ4⟩
                case measure => simp [intOf]; omega
              · simp only [glA, glB, glC]
                go_simp
                refine hK.out _ _ (fun _ => trivial) ?_
                clear hK K
                (try simp only [glA, glB, glC, Act.put, glD, glE, glF])
                refine wpAnyJ_one 4 rfl (by kernel_rfl) (fun K hK => ?_)
                simp only [glA, glB, glC]
                go_simp
                refine hK.out _ _ (fun _ => trivial) ?_
                clear hK K
                (try simp only [glA, glB, glC, Act.put, glD, glE, glF])
                refine wpAnyJ_one 8 rfl (by kernel_rfl) (fun K hK => ?_)
                rw [if_pos (by rfl)]
                refine wpIn_append_run (.tmp 119) (.tmp 122) 34 (by first | exact hF | exact wideFn) rfl rfl rfl hrun3 ?_
                refine hK.out _ _ (fun _ => trivial) ?_
                clear hK K
                (try simp only [glA, glB, glC, Act.put, glD, glE, glF])
                refine wpAnyJ_take 9 (v := ?_) (by first | exact hF | exact wideFn) trivial rfl (by kernel_rfl) (by kernel_rfl) (by kernel_rfl) (by kernel_rfl) rfl ?_ (by first | exact fun _ _ _ h => h | exact fun _ _ _ h => hQ2 _ _ _ _ _ h) ?_
                rotate_left
                · intro W hSW
                  simp only [glA, glB, glC]
                  (try dsimp only at hSW)
                  go_simp
                  with_reducible rfl
                (try simp only [glA, glB, glC, Act.put, glD, glE, glF])
                refine wpAnyJ_take 10 (v := ?_) (by first | exact hF | exact wideFn) trivial rfl (by kernel_rfl) (by kernel_rfl) (by kernel_rfl) (by kernel_rfl) rfl ?_ (by first | exact fun _ _ _ h => h | exact fun _ _ _ h => hQ2 _ _ _ _ _ h) ?_
                rotate_left
                · intro W hSW
                  simp only [glA, glB, glC]
                  (try dsimp only at hSW)
                  go_simp
                  with_reducible rfl
                (try simp only [glA, glB, glC, Act.put, glD, glE, glF])
                refine wpAnyJ_one 11 rfl (by kernel_rfl) (fun K hK => ?_)
                simp only [glA, glB, glC]
                go_simp
                refine hK.out _ _ (fun _ => trivial) ?_
                clear hK K
                (try simp only [glA, glB, glC, Act.put, glD, glE, glF])
                refine wpAnyJ_done (by kernel_rfl) ?_
                go_wp2_with fail
                go_roundw
                case rel => exact ⟨j + 1, by go_num, by omega, _, BK4, OW4, ST4, AQ4⟩
                case measure => simp [intOf]; omega
          · obtain rfl : j = k := by omega
            go_wp2_with fail
            go_ret
            exact .inr (.inr ⟨HE0.out, by omega, rfl, _, BK.out, OW.out, ST.out, AQ.out⟩)
end Go.Proofs.YtagjeeimglecnaaDoor
/- Contracts of chapter 8 on the book: Draw. -/
namespace Go.Proofs.YtagjeeimglecnaaDoor
open List renaming getElem_toArray → glA, getElem_cons_zero → glB, getElem_cons_succ → glC, setIfInBounds_toArray → glD, set_cons_zero → glE, set_cons_succ → glF
open Go Go.RowKit Go.Shelf
set_option maxHeartbeats 2000000
set_option maxRecDepth 100000
/-- a number of lost bricks that cannot be -/
def lostB (ws : Nat → Wa) (od z : Nat → Int) (i : Nat) : Bool := ! decide (0 ≤ z i ∧ z i ≤ (ws (od i).toNat).burning)
def drawn (x : Wa) (l : Int) : Wa := (((x.put 2 (x.burning - l)).put 5 (x.broken + l)).put 2 (x.burning - l - (x.burning - l))).put 3 (x.fired + (x.burning - l))
/-- the stores behind k kinds that are drawn -/
def drawW (ws : Nat → Wa) (od z : Nat → Int) : Nat → Nat → Wa
  | 0 => ws
  | k + 1 => upd (drawW ws od z k) (od k).toNat (drawn (drawW ws od z k (od k).toNat) (z k))
theorem drawW_far {ws : Nat → Wa} {od z : Nat → Int} {K : Nat} : ∀ {k : Nat}, (∀ j, j < k → (od j).toNat ≠ K) → drawW ws od z k K = ws K
  | 0, _ => rfl
  | k + 1, h => by
    show upd (drawW ws od z k) (od k).toNat _ K = ws K
    rw [upd_ne _ _ (fun e => h k (by omega) e.symm)]
    exact drawW_far fun j hj => h j (by omega)
theorem draw_cold (b S n m c : Nat) (A : Option Addr) (room : Int) (spv : Value) (w : World) (hbk : Blk w b 81 #[spv, .int .i64 room, .slice (some ⟨S, 0, none⟩) n n, .slice none 0 0]) :
    Calls Tryd.prog 12 #[.pointer (some ⟨b, 0, none⟩), .slice A m c] w fun e w' => e = .returned (.int .i64 9) ∧ Below w.heap.size w w' := by
  obtain ⟨g1, c0, c1, c2, c3⟩ := bx4 hbk
  clear hbk
  go_enter Tryd.func12, Tryd.ntmps12
  go_wp2_with fail
  go_ret
  exact ⟨rfl, Below.refl _ _⟩
theorem draw_form (b S n m c q oc : Nat) (A G : Option Addr) (room : Int) (spv : Value) (w : World) (hbk : Blk w b 81 #[spv, .int .i64 room, .slice (some ⟨S, 0, none⟩) n n, .slice G q oc]) (hq : 1 ≤ q) (hq2 : q ≤ 20) (hm : m ≤ maxLen) (hne : m ≠ q) :
    Calls Tryd.prog 12 #[.pointer (some ⟨b, 0, none⟩), .slice A m c] w fun e w' => e = .returned (.int .i64 4) ∧ Below w.heap.size w w' := by
  unfold maxLen at hm
  have h1 : ¬ (m : Int) = (q : Int) := by omega
  have h2 : ¬ (q : Int) = 0 := by omega
  obtain ⟨g1, c0, c1, c2, c3⟩ := bx4 hbk
  clear hbk
  go_enter Tryd.func12, Tryd.ntmps12
  go_wp2_with fail
  go_ret
  exact ⟨rfl, Below.refl _ _⟩
def DrawPost (n q : Nat) (room : Int) (ws : Nat → Wa) (od z : Nat → Int) (b S : Nat) (spv : Value) (w : World) (e : Ending) (w' : World) : Prop :=
  (anyTo (lostB ws od z) q = true ∧ e = .returned (.int .i64 2) ∧ Below w.heap.size w w') ∨ (anyTo (lostB ws od z) q = false ∧ e = .returned (.int .i64 0) ∧ Blk w' b 81 #[spv, .int .i64 room, .slice (some ⟨S, 0, none⟩) n n, .slice none 0 0] ∧ Stores w' S n (drawW ws od z q) ∧ Apart w w' S b)
theorem draw_any (b S n q oc c ab aoff gb goff : Nat) (room : Int) (spv : Value) (ws : Nat → Wa) (od z : Nat → Int) (w : World) (hbk : Blk w b 81 #[spv, .int .i64 room, .slice (some ⟨S, 0, none⟩) n n, .slice (some ⟨gb, goff, none⟩) q oc]) (hn1 : 1 ≤ n) (hn : n ≤ 20) (hS : Stores w S n ws) (ho : ∀ k, k < n → OkW (ws k)) (hq1 : 1 ≤ q) (hq : q ≤ 20) (hG : IR w w.heap.size (some ⟨gb, goff, none⟩) q od) (hA : IR w w.heap.size (some ⟨ab, aoff, none⟩) q z)
    (hod : ∀ i, i < q → 0 ≤ od i ∧ od i ≤ (n : Int) - 1) (hdis : ∀ i j, i < j → j < q → od i ≠ od j) (habS : ab ≠ S) (habb : ab ≠ b) (hgbS : gb ≠ S) (hgbb : gb ≠ b) :
    Calls Tryd.prog 12 #[.pointer (some ⟨b, 0, none⟩), .slice (some ⟨ab, aoff, none⟩) q c] w (DrawPost n q room ws od z b S spv w) := by
  have HBK := hide hbk
  have HST := hide hS
  have HOK := hide ho
  have HG := hide hG
  have HA := hide hA
  have HOD := hide hod
  have HDIS := hide hdis
  clear hbk hS ho hG hA hod hdis
  have m2 : ¬ (q : Int) = 0 := by omega
  have m2b : ((q : Int) == 0) = false := by simp; omega
  go_enter Tryd.func12, Tryd.ntmps12
  obtain ⟨g1, c0, c1, c2, c3⟩ := bx4 HBK.out
  go_wp2_with fail
  clear g1 c0 c1 c2 c3
  (try rw [m2b])
  go_loopw [34] (fun i wr => ∃ k : Nat, i = .int .i64 k ∧ k ≤ q ∧ Hid (anyTo (lostB ws od z) k = false) ∧ Hid (Below w.heap.size w wr)) (fun i _ => q - (intOf i).toNat)
  case atStart => exact ⟨0, rfl, by omega, hide rfl, hide (Below.refl _ w)⟩
  case round =>
    obtain ⟨k, rfl, hk, HE0, HB⟩ := hrel
    by_cases hlt : k < q
    · obtain ⟨gb', goff', he, hgb', hc1⟩ := IR.at_ (HG.out.below HB.out (Nat.le_refl _)) hlt
      injection he with he
      injection he with h1 h2
      subst h1 h2
      obtain ⟨ab', aoff', he, hab', hc2⟩ := IR.at_ (HA.out.below HB.out (Nat.le_refl _)) hlt
      injection he with he
      injection he with h1 h2
      subst h1 h2
      obtain ⟨o1, o2⟩ := HOD.out k hlt
      obtain ⟨KK, hKK⟩ : ∃ KK : Nat, od k = KK := ⟨(od k).toNat, by omega⟩
      have hKn : KK < n := by omega
      rw [hKK] at hc1
      have zw := HB.out.size
      have hz : gb < wr.heap.size := by omega
      have i1 : (0 : Int) ≤ (k : Int) := by omega
      have i2 : (k : Int) < (q : Int) := by omega
      have i3 : (0 : Int) ≤ (KK : Int) := by omega
      have i4 : (KK : Int) < (n : Int) := by omega
      go_wp2_with fail
      have H10 : Hid (∀ W, Below w.heap.size w W → (W.cell? ⟨b, 2, none⟩ = some (.slice (some ⟨S, 0, none⟩) n n) ∧ W.cell? ⟨S, KK * 7 + 2, none⟩ = some (.int .i64 (ws KK).burning)) ∧ W.cell? ⟨ab, aoff + k, none⟩ = some (.int .i64 (z k))) := hide (fun W h => by
        obtain ⟨-, -, -, x2, -⟩ := bx4 (HBK.out.ext h)
        obtain ⟨ab', aoff', he, hab', hc2⟩ := IR.at_ (HA.out.below h (Nat.le_refl _)) hlt
        injection he with he
        injection he with h1 h2
        subst h1 h2
        exact ⟨⟨x2, (h.cell (p := ⟨S, KK * 7 + 2, none⟩) HST.out.lt).trans (HST.out.2 KK hKn).2.2.2.2.1⟩, hc2⟩)
      have HWI := hide (kwithin_any 0 (ws KK).burning (some ⟨wr.drew.heap.size, 0, none⟩) 1 1 (fun _ => z k) (wr.drew.alloc (.cells #[.int .i64 (z k)] 3)) (by decide) (by simpa using IR.one wr.drew (z k) 3))
      rw [wiB_one] at HWI
      clear hc1 hc2 hab' hgb' hz
      have Bd := hide HB.out.drew
      have Be := hide (Bd.out.alloc Bd.out.size (.cells #[.int .i64 (z k)] 3))
      refine wp_region_J (fun W : World => (W.cell? ⟨b, 2, none⟩ = some (.slice (some ⟨S, 0, none⟩) n n) ∧ W.cell? ⟨S, KK * 7 + 2, none⟩ = some (.int .i64 (ws KK).burning)) ∧ W.cell? ⟨ab, aoff + k, none⟩ = some (.int .i64 (z k))) (by kernel_rfl) ?_
      refine tk_start [0, 1, 2, 3, 4, 5, 6, 7, 8, 9, 10, 11, 12] ?_
      iterate 13
        refine tk_one (v := ?_) (by first | exact hF | exact wideFn) (H10.out _ Bd.out) rfl (by kernel_rfl) (by kernel_rfl) (by kernel_rfl) (by kernel_rfl) rfl ?_ (by first | exact fun _ _ _ h => h | exact fun _ _ _ h => hQ2 _ _ _ _ _ h) ?_
        rotate_left
        · intro W hSW
          simp only [glA, glB, glC]
          (try dsimp only at hSW)
          go_simp
          with_reducible rfl
        (try simp only [glA, glB, glC, Act.put, glD, glE, glF])
      refine tk_end ?_
      refine wpAnyJ_one 13 rfl (by kernel_rfl) (fun K hK => ?_)
      simp only [glA, glB, glC]
      go_simp
      refine hK.out _ _ (fun _ => H10.out _ Be.out) ?_
      clear hK K
      (try simp only [glA, glB, glC, Act.put, glD, glE, glF])
      refine wpAnyJ_one 14 rfl (by kernel_rfl) (fun K hK => ?_)
      simp only [glA, glB, glC]
      go_simp
      refine ⟨trivial, rfl, ?_⟩
      refine (callsIn_wide.2 HWI.out).mono ?_
      rintro e w2 ⟨rfl, hb2⟩
      have Bf := hide (Be.out.trans (hb2.mono Be.out.size))
      dsimp only
      refine hK.out _ _ (fun _ => H10.out _ Bf.out) ?_
      clear hK K
      (try simp only [glA, glB, glC, Act.put, glD, glE, glF])
      by_cases hz2 : 0 ≤ z k ∧ z k ≤ (ws KK).burning
      · rw [decide_eq_true hz2]
        refine wpAnyJ_take 15 (v := ?_) (by first | exact hF | exact wideFn) (H10.out _ Bf.out) rfl (by kernel_rfl) (by kernel_rfl) (by kernel_rfl) (by kernel_rfl) rfl ?_ (by first | exact fun _ _ _ h => h | exact fun _ _ _ h => hQ2 _ _ _ _ _ h) ?_
        rotate_left
        · intro W hSW
          simp only [glA, glB, glC]
          (try dsimp only at hSW)
          go_simp
          with_reducible rfl
        (try simp only [glA, glB, glC, Act.put, glD, glE, glF])
        refine wpAnyJ_done (by kernel_rfl) ?_
        go_wp2_with fail
        go_roundw
        case rel =>
          refine ⟨k + 1, by go_num, by omega, hide ?_, Bf⟩
          show (anyTo (lostB ws od z) k || lostB ws od z k) = false
          rw [HE0.out]
          unfold lostB
          rw [hKK, Int.toNat_natCast, decide_eq_true hz2]
          rfl
        case measure => simp [intOf]; omega
      · rw [decide_eq_false hz2]
        refine wpAnyJ_take 15 (v := ?_) (by first | exact hF | exact wideFn) (H10.out _ Bf.out) rfl (by kernel_rfl) (by kernel_rfl) (by kernel_rfl) (by kernel_rfl) rfl ?_ (by first | exact fun _ _ _ h => h | exact fun _ _ _ h => hQ2 _ _ _ _ _ h) ?_
        rotate_left
        · intro W hSW
          simp only [glA, glB, glC]
          (try dsimp only at hSW)
          go_simp
          with_reducible rfl
        (try simp only [glA, glB, glC, Act.put, glD, glE, glF])
        refine wpAnyJ_done (by kernel_rfl) ?_
        go_wp2_with fail
        go_ret
        refine .inl ⟨(anyTo_iff _ _).2 ⟨k, hlt, ?_⟩, rfl, Bf.out⟩
        unfold lostB
        rw [hKK, Int.toNat_natCast, decide_eq_false hz2]
        rfl
    · obtain rfl : k = q := by omega
      obtain ⟨g1, c0, c1, c2, c3⟩ := bx4 (HBK.out.ext HB.out)
      go_wp2_with fail
      clear g1 c0 c1 c2 c3
      obtain ⟨wo, rfl⟩ : ∃ wo : World, wo = wr := ⟨_, rfl⟩
      have AP := hide (Apart.of_below (S := S) (b := b) HB.out)
      have BK0 := hide (HBK.out.ext HB.out)
      have ST0 := hide (HST.out.below HB.out HST.out.lt)
      have HALL : Hid (∀ i, i < k → ∃ KK : Nat, od i = KK ∧ KK < n ∧ 0 ≤ z i ∧ z i ≤ (ws KK).burning) := hide (fun i hi => by
        obtain ⟨o1, o2⟩ := HOD.out i hi
        have h : lostB ws od z i = false := by
          cases hl : lostB ws od z i
          · rfl
          · have := (anyTo_iff (lostB ws od z) k).2 ⟨i, hi, hl⟩
            rw [HE0.out] at this; cases this
        unfold lostB at h
        have h2 := of_decide_eq_true (by simpa using h : decide (0 ≤ z i ∧ z i ≤ (ws (od i).toNat).burning) = true)
        exact ⟨(od i).toNat, by omega, by omega, h2⟩)
      go_loopw [61] (fun i wr => ∃ j : Nat, i = .int .i64 j ∧ j ≤ k ∧ Hid (Blk wr b 81 #[spv, .int .i64 room, .slice (some ⟨S, 0, none⟩) n n, .slice (some ⟨gb, goff, none⟩) k oc]) ∧ Hid (Stores wr S n (drawW ws od z j)) ∧ Hid (Apart w wr S b)) (fun i _ => k - (intOf i).toNat)
      case atStart => exact ⟨0, rfl, by omega, BK0, ST0, AP⟩
      case round =>
        obtain ⟨j, rfl, hjk, BK, ST, AQ⟩ := hrel
        clear BK0 ST0 AP
        by_cases hlt : j < k
        · obtain ⟨KK, hKK, hKn, y1, y2⟩ := HALL.out j hlt
          have zw : w.heap.size ≤ wr.heap.size := AQ.out.2.2.2.1
          have hSl : S < w.heap.size := HST.out.lt
          have hbl : b < w.heap.size := HBK.out.lt
          have hbS : b ≠ S := fun e => by
            obtain ⟨cs, hcs⟩ := HST.out.1
            exact HBK.out.ne_ hcs (by decide) e
          obtain ⟨gb', goff', he, hgb', hc1⟩ := IR.at_ HG.out hlt
          injection he with he
          injection he with h1 h2
          subst h1 h2
          obtain ⟨ab', aoff', he, hab', hc2⟩ := IR.at_ HA.out hlt
          injection he with he
          injection he with h1 h2
          subst h1 h2
          have d1 : wr.cell? ⟨gb, goff + j, none⟩ = some (.int .i64 (od j)) := (AQ.out.cell (p := ⟨gb, goff + j, none⟩) hgb' hgbS hgbb).trans hc1
          have d2 : wr.cell? ⟨ab, aoff + j, none⟩ = some (.int .i64 (z j)) := (AQ.out.cell (p := ⟨ab, aoff + j, none⟩) hab' habS habb).trans hc2
          rw [hKK] at d1
          have hzg : gb < wr.heap.size := by omega
          have hza : ab < wr.heap.size := by omega
          have i1 : (0 : Int) ≤ (j : Int) := by omega
          have i2 : (j : Int) < (k : Int) := by omega
          have i3 : (0 : Int) ≤ (KK : Int) := by omega
          have i4 : (KK : Int) < (n : Int) := by omega
          have hfw : drawW ws od z j KK = ws KK := drawW_far fun i hi => by
            obtain ⟨Ki, hKi, -⟩ := HALL.out i (by omega)
            have := HDIS.out i j hi hlt
            rw [hKi, hKK] at this
            rw [hKi]
            omega
          have HKW : KindW wr S (KK * 7) (ws KK) := by have := ST.out.2 KK hKn; rw [hfw] at this; exact this
          have HOW := HOK.out KK hKn
          obtain ⟨o1, o2, o3, o4, o5, o6, o7, o8, o9⟩ := HOW
          obtain ⟨g1, c0, c1, c2, c3⟩ := bx4 BK.out
          clear hc1 hc2
          go_wp2_with fail
          clear g1 c0 c1 c2 c3 d1 hzg
          -- the lost ones
          have HM := hide (move_ok (z j) (ws KK).burning (ws KK).broken S (KK * 7 + 2) (KK * 7 + 5) wr.drew HKW.2.2.2.2.1 HKW.2.2.2.2.2.2.2.1 HKW.2.1 (by omega) y2 (by omega) (by omega) o6 (by omega))
          refine wp_region_J (fun _ : World => True) (by kernel_rfl) ?_
          refine tk_start [0, 1, 2, 4, 5, 6, 7, 8, 9, 10, 11] ?_
          iterate 11
            refine tk_one (v := ?_) (by first | exact hF | exact wideFn) trivial rfl (by kernel_rfl) (by kernel_rfl) (by kernel_rfl) (by kernel_rfl) rfl ?_ (by first | exact fun _ _ _ h => h | exact fun _ _ _ h => hQ2 _ _ _ _ _ h) ?_
            rotate_left
            · intro W hSW
              simp only [glA, glB, glC]
              (try dsimp only at hSW)
              go_simp
              with_reducible rfl
            (try simp only [glA, glB, glC, Act.put, glD, glE, glF])
          refine tk_end ?_
          refine wpAnyJ_one 3 rfl (by kernel_rfl) (fun K hK => ?_)
          simp only [glA, glB, glC]
          go_simp
          refine hK.out _ _ (fun _ => trivial) ?_
          clear hK K
          (try simp only [glA, glB, glC, Act.put, glD, glE, glF])
          refine wpAnyJ_one 12 rfl (by kernel_rfl) (fun K hK => ?_)
          simp only [glA, glB, glC]
          go_simp
          refine ⟨trivial, rfl, ?_⟩
          refine (callsIn_wide.2 HM.out).mono ?_
          rintro e w2 ⟨rfl, hb2⟩
          have hb2' : Below wr.heap.size (mv wr S (KK * 7 + 2) (KK * 7 + 5) ((ws KK).burning - z j) ((ws KK).broken + z j)) w2 := ⟨hb2.os, hb2.tape, hb2.output, hb2.size, hb2.block⟩
          dsimp only
          refine hK.out _ _ (fun _ => trivial) ?_
          clear hK K
          (try simp only [glA, glB, glC, Act.put, glD, glE, glF])
          refine wpAnyJ_done (by kernel_rfl) ?_
          clear hb2 HM d2 hza HKW
          obtain ⟨X1, hX1⟩ : ∃ X1 : Wa, X1 = ((ws KK).put 2 ((ws KK).burning - z j)).put 5 ((ws KK).broken + z j) := ⟨_, rfl⟩
          have hst2 : Stores (mv wr S (KK * 7 + 2) (KK * 7 + 5) ((ws KK).burning - z j) ((ws KK).broken + z j)) S n (upd (drawW ws od z j) KK X1) := by
            have := (ST.out.set (k := KK) (i := 2) hKn (by omega) ((ws KK).burning - z j)).set (k := KK) (i := 5) hKn (by omega) ((ws KK).broken + z j)
            rw [upd_upd, upd_same, hfw, ← hX1] at this
            exact this
          obtain ⟨hst3, g12⟩ := turn_of (w := wr) hst2 (grownBy_setS (grownBy_setS (World.grownBy.refl wr _) _ _) _ _) (size_mv _ _ _ _ _ _) hb2'
          have ST2 := hide hst3
          have HK2 := ST2.out.2 KK hKn
          rw [upd_same] at HK2
          have e2 : w2.cell? ⟨S, KK * 7 + 2, none⟩ = some (.int .i64 ((ws KK).burning - z j)) := by have := HK2.2.2.2.2.1; rw [hX1] at this; exact this
          have e3 : w2.cell? ⟨S, KK * 7 + 3, none⟩ = some (.int .i64 (ws KK).fired) := by have := HK2.2.2.2.2.2.1; rw [hX1] at this; exact this
          have HM := hide (move_ok ((ws KK).burning - z j) ((ws KK).burning - z j) (ws KK).fired S (KK * 7 + 2) (KK * 7 + 3) w2.drew e2 e3 HK2.2.1 (by omega) (Int.le_refl _) (by omega) (by omega) o4 (by omega))
          have BK2 := hide (BK.out.grown g12 (fun e => hbS (by injection e)))
          have AQ2 := hide (AQ.out.then g12 (fun i h => by injection h with h; exact .inl h.symm))
          have z2 : S < w2.heap.size := ST2.out.lt
          clear hb2' hst2 hst3 g12 HK2 e3 BK ST AQ
          go_wp2_with fail
          refine wp_region_J (fun _ : World => True) (by kernel_rfl) ?_
          refine tk_start [0, 1, 2, 3, 5, 6, 7, 8, 9, 10, 11, 12] ?_
          iterate 12
            refine tk_one (v := ?_) (by first | exact hF | exact wideFn) trivial rfl (by kernel_rfl) (by kernel_rfl) (by kernel_rfl) (by kernel_rfl) rfl ?_ (by first | exact fun _ _ _ h => h | exact fun _ _ _ h => hQ2 _ _ _ _ _ h) ?_
            rotate_left
            · intro W hSW
              simp only [glA, glB, glC]
              (try dsimp only at hSW)
              go_simp
              with_reducible rfl
            (try simp only [glA, glB, glC, Act.put, glD, glE, glF])
          refine tk_end ?_
          refine wpAnyJ_one 4 rfl (by kernel_rfl) (fun K hK => ?_)
          simp only [glA, glB, glC]
          go_simp
          refine hK.out _ _ (fun _ => trivial) ?_
          clear hK K
          (try simp only [glA, glB, glC, Act.put, glD, glE, glF])
          refine wpAnyJ_one 13 rfl (by kernel_rfl) (fun K hK => ?_)
          simp only [glA, glB, glC]
          go_simp
          refine ⟨trivial, rfl, ?_⟩
          refine (callsIn_wide.2 HM.out).mono ?_
          rintro e w3 ⟨rfl, hb3⟩
          have hb3' : Below w2.heap.size (mv w2 S (KK * 7 + 2) (KK * 7 + 3) ((ws KK).burning - z j - ((ws KK).burning - z j)) ((ws KK).fired + ((ws KK).burning - z j))) w3 := ⟨hb3.os, hb3.tape, hb3.output, hb3.size, hb3.block⟩
          dsimp only
          refine hK.out _ _ (fun _ => trivial) ?_
          clear hK K
          (try simp only [glA, glB, glC, Act.put, glD, glE, glF])
          refine wpAnyJ_done (by kernel_rfl) ?_
          clear hb3 HM e2
          have hst4 : Stores (mv w2 S (KK * 7 + 2) (KK * 7 + 3) ((ws KK).burning - z j - ((ws KK).burning - z j)) ((ws KK).fired + ((ws KK).burning - z j))) S n (drawW ws od z (j + 1)) := by
            have := (ST2.out.set (k := KK) (i := 2) hKn (by omega) ((ws KK).burning - z j - ((ws KK).burning - z j))).set (k := KK) (i := 3) hKn (by omega) ((ws KK).fired + ((ws KK).burning - z j))
            rw [upd_upd, upd_same, upd_upd, upd_same, hX1] at this
            have e : drawW ws od z (j + 1) = upd (drawW ws od z j) KK (drawn (ws KK) (z j)) := by
              show upd (drawW ws od z j) (od j).toNat (drawn (drawW ws od z j (od j).toNat) (z j)) = _
              rw [hKK, Int.toNat_natCast, hfw]
            rw [e]
            exact this
          obtain ⟨hst5, g23⟩ := turn_of (w := w2) hst4 (grownBy_setS (grownBy_setS (World.grownBy.refl w2 _) _ _) _ _) (size_mv _ _ _ _ _ _) hb3'
          have ST3 := hide hst5
          have BK3 := hide (BK2.out.grown g23 (fun e => hbS (by injection e)))
          have AQ3 := hide (AQ2.out.then g23 (fun i h => by injection h with h; exact .inl h.symm))
          clear hb3' hst4 hst5 g23 ST2 BK2 AQ2
          go_wp2_with fail
          go_roundw
          case rel => exact ⟨j + 1, by go_num, by omega, BK3, ST3, AQ3⟩
          case measure => simp [intOf]; omega
        · obtain rfl : j = k := by omega
          obtain ⟨g1, c0, c1, c2, c3⟩ := bx4 BK.out
          have f3 := BK.out.frozen 3
          go_wp2_with fail
          go_ret
          have hbS : b ≠ S := fun e => by
            obtain ⟨cs, hcs⟩ := HST.out.1
            exact HBK.out.ne_ hcs (by decide) e
          have gst : wr.grownBy (wr.setCell ⟨b, 3, none⟩ (.slice none 0 0)) (some b) := grownBy_setS (World.grownBy.refl wr _) _ _
          exact .inr ⟨HE0.out, rfl, BK.out.set_ 3 (.slice none 0 0), Stores.grown ST.out gst (fun e => hbS (by injection e with e; exact e.symm)), AQ.out.then gst (fun i h => by injection h with h; exact .inr (.inl h.symm))⟩
end Go.Proofs.YtagjeeimglecnaaDoor
/- Split off XMf: words that hang on less of the program. -/
namespace Go.Proofs.YtagjeeimglecnaaDoor
open Go Go.RowKit Go.Shelf
set_option maxHeartbeats 2000000
/-- the answer E, and kind k of the stores is now X -/
def StepPost (b S n : Nat) (spv ov : Value) (room : Int) (ws : Nat → Wa) (k : Nat) (E : Int) (X : Wa) (w : World) (e : Ending) (w' : World) : Prop :=
  e = .returned (.int .i64 E) ∧ Blk w' b 81 #[spv, .int .i64 room, .slice (some ⟨S, 0, none⟩) n n, ov] ∧ Stores w' S n (upd ws k X) ∧ w.grownBy w' (some S)
theorem book_ne {b S n : Nat} {spv ov : Value} {room : Int} {ws : Nat → Wa} {w : World} (hb : Blk w b 81 #[spv, .int .i64 room, .slice (some ⟨S, 0, none⟩) n n, ov]) (hS : Stores w S n ws) : b ≠ S := fun e => by
  obtain ⟨cs, hcs⟩ := hS.1
  exact hb.ne_ hcs (by decide) e
theorem step_same {b S n k : Nat} {spv ov : Value} {room E : Int} {ws : Nat → Wa} {w w' : World} (hb : Blk w b 81 #[spv, .int .i64 room, .slice (some ⟨S, 0, none⟩) n n, ov]) (hS : Stores w S n ws) (hB : Below w.heap.size w w') : StepPost b S n spv ov room ws k E (ws k) w (.returned (.int .i64 E)) w' := by
  obtain ⟨h1, h2⟩ := turn_of hS (World.grownBy.refl w _) rfl hB
  refine ⟨rfl, hb.ext hB, ?_, h2⟩
  rw [upd_self]; exact h1
theorem step_new {b S n k : Nat} {spv ov : Value} {room E : Int} {ws : Nat → Wa} {X : Wa} {w w1 w' : World} (hb : Blk w b 81 #[spv, .int .i64 room, .slice (some ⟨S, 0, none⟩) n n, ov]) (hS : Stores w S n ws) (hX : Stores w1 S n (upd ws k X)) (hg : w.grownBy w1 (some S)) (hz : w1.heap.size = w.heap.size) (hB : Below w.heap.size w1 w') : StepPost b S n spv ov room ws k E X w (.returned (.int .i64 E)) w' := by
  obtain ⟨h1, h2⟩ := turn_of hX hg hz hB
  exact ⟨rfl, hb.grown h2 (fun e => book_ne hb hS (by injection e)), h1, h2⟩
def mouldE (x : Wa) (m : Int) : Int := if 1000000000 < x.wet + x.dry + x.burning + x.fired + x.laid + x.broken + m then 8 else 0
def mouldX (x : Wa) (m : Int) : Wa := if 1000000000 < x.wet + x.dry + x.burning + x.fired + x.laid + x.broken + m then x else x.put 0 (x.wet + m)
theorem mould_step (b S n k : Nat) (spv ov : Value) (room m : Int) (ws : Nat → Wa) (w : World) (hb : Blk w b 81 #[spv, .int .i64 room, .slice (some ⟨S, 0, none⟩) n n, ov]) (hn : n ≤ 20) (hk : k < n) (hS : Stores w S n ws) (ho : OkW (ws k)) (h0 : 0 ≤ m) (h1 : m ≤ 1000000000) : Calls Tryd.prog 9 #[.pointer (some ⟨b, 0, none⟩), .int .i64 k, .int .i64 m] w (StepPost b S n spv ov room ws k (mouldE (ws k) m) (mouldX (ws k) m) w) := by
  by_cases hf : 1000000000 < (ws k).wet + (ws k).dry + (ws k).burning + (ws k).fired + (ws k).laid + (ws k).broken + m
  · refine (mould_full b S n k spv ov room m (ws k) w hb hn hk (hS.2 k hk) ho h0 h1 hf).mono ?_
    rintro e w' ⟨rfl, hB⟩
    unfold mouldE mouldX
    rw [if_pos hf, if_pos hf]
    exact step_same hb hS hB
  · refine (mould_ok b S n k spv ov room m (ws k) w hb hn hk (hS.2 k hk) ho h0 h1 (by omega)).mono ?_
    rintro e w' ⟨rfl, hB⟩
    unfold mouldE mouldX
    rw [if_neg hf, if_neg hf]
    exact step_new hb hS (hS.set (k := k) (i := 0) hk (by omega) _) (grownBy_setS (World.grownBy.refl w _) _ _) (size_set _ _ _) hB
def dryE (x : Wa) (m br : Int) : Int := if ¬ (0 ≤ br ∧ br ≤ m) then 2 else if x.wet < m then 9 else 0
def dryX (x : Wa) (m br : Int) : Wa := if ¬ (0 ≤ br ∧ br ≤ m) then x else if x.wet < m then x else (((x.put 0 (x.wet - m)).put 1 (x.dry + m)).put 1 (x.dry + m - br)).put 5 (x.broken + br)
theorem dry_step (b S n k : Nat) (spv ov : Value) (room m : Int) (ws : Nat → Wa) (w : World) (hb : Blk w b 81 #[spv, .int .i64 room, .slice (some ⟨S, 0, none⟩) n n, ov]) (hn : n ≤ 20) (hk : k < n) (hS : Stores w S n ws) (ho : OkW (ws k)) (h0 : 0 ≤ m) (h1 : m ≤ 1000000000) (br : Int) : Calls Tryd.prog 10 #[.pointer (some ⟨b, 0, none⟩), .int .i64 k, .int .i64 m, .int .i64 br] w (StepPost b S n spv ov room ws k (dryE (ws k) m br) (dryX (ws k) m br) w) := by
  unfold dryE dryX
  by_cases hbr : 0 ≤ br ∧ br ≤ m
  · rw [if_neg (show ¬ ¬ (0 ≤ br ∧ br ≤ m) from fun h => h hbr), if_neg (show ¬ ¬ (0 ≤ br ∧ br ≤ m) from fun h => h hbr)]
    by_cases hlt : (ws k).wet < m
    · refine (dry_state b S n k spv ov room m (ws k) w hb hn hk (hS.2 k hk) ho br h0 h1 hbr hlt).mono ?_
      rintro e w' ⟨rfl, hB⟩
      rw [if_pos hlt, if_pos hlt]
      exact step_same hb hS hB
    · refine (dry_ok b S n k spv ov room m (ws k) w hb hn hk (hS.2 k hk) ho br h0 h1 hbr (by omega)).mono ?_
      rintro e w' ⟨rfl, hB⟩
      rw [if_neg hlt, if_neg hlt]
      have h := (((hS.set (k := k) (i := 0) hk (by omega) ((ws k).wet - m)).set (k := k) (i := 1) hk (by omega) ((ws k).dry + m)).set (k := k) (i := 1) hk (by omega) ((ws k).dry + m - br)).set (k := k) (i := 5) hk (by omega) ((ws k).broken + br)
      simp only [upd_upd, upd_same] at h
      exact step_new hb hS h (grownBy_setS (grownBy_setS (grownBy_setS (grownBy_setS (World.grownBy.refl w _) _ _) _ _) _ _) _ _) (by simp only [size_set]) hB
  · refine (dry_arg b S n k spv ov room m (ws k) w hb hn hk (hS.2 k hk) ho br h0 h1 hbr).mono ?_
    rintro e w' ⟨rfl, hB⟩
    rw [if_pos hbr, if_pos hbr]
    exact step_same hb hS hB
def layE (x : Wa) (m : Int) : Int := if x.fired < m then 9 else 0
def layX (x : Wa) (m : Int) : Wa := if x.fired < m then x else (x.put 3 (x.fired - m)).put 4 (x.laid + m)
theorem lay_step (b S n k : Nat) (spv ov : Value) (room m : Int) (ws : Nat → Wa) (w : World) (hb : Blk w b 81 #[spv, .int .i64 room, .slice (some ⟨S, 0, none⟩) n n, ov]) (hn : n ≤ 20) (hk : k < n) (hS : Stores w S n ws) (ho : OkW (ws k)) (h0 : 0 ≤ m) (h1 : m ≤ 1000000000) : Calls Tryd.prog 13 #[.pointer (some ⟨b, 0, none⟩), .int .i64 k, .int .i64 m] w (StepPost b S n spv ov room ws k (layE (ws k) m) (layX (ws k) m) w) := by
  unfold layE layX
  by_cases hlt : (ws k).fired < m
  · refine (lay_state b S n k spv ov room m (ws k) w hb hn hk (hS.2 k hk) ho h0 h1 hlt).mono ?_
    rintro e w' ⟨rfl, hB⟩
    rw [if_pos hlt, if_pos hlt]
    exact step_same hb hS hB
  · refine (lay_ok b S n k spv ov room m (ws k) w hb hn hk (hS.2 k hk) ho h0 h1 (by omega)).mono ?_
    rintro e w' ⟨rfl, hB⟩
    rw [if_neg hlt, if_neg hlt]
    have h := (hS.set (k := k) (i := 3) hk (by omega) ((ws k).fired - m)).set (k := k) (i := 4) hk (by omega) ((ws k).laid + m)
    simp only [upd_upd, upd_same] at h
    exact step_new hb hS h (grownBy_setS (grownBy_setS (World.grownBy.refl w _) _ _) _ _) (size_mv _ _ _ _ _ _) hB
end Go.Proofs.YtagjeeimglecnaaDoor
/- Split off XMi: words that hang on less of the program. -/
namespace Go.Proofs.YtagjeeimglecnaaDoor
open Go Go.RowKit Go.Shelf
set_option maxRecDepth 100000
def lessOf (x y : Int) : Int := if y < x then y else x
def moreOf (x y : Int) : Int := if y > x then y else x
def min7 (a b c d e f g : Int) : Int := lessOf (lessOf (lessOf (lessOf (lessOf (lessOf a b) c) d) e) f) g
def max7 (a b c d e f g : Int) : Int := moreOf (moreOf (moreOf (moreOf (moreOf (moreOf a b) c) d) e) f) g
theorem run_min7 {P : Program} (w : World) (ts : Array TypeId) (t : TypeId) (a b c d e f g : Int) :
    (Builtin.min_ ts t #[.int .i64 a, .int .i64 b, .int .i64 c, .int .i64 d, .int .i64 e, .int .i64 f, .int .i64 g]).run P w = .ok (.int .i64 (min7 a b c d e f g)) w := by
  simp [Builtin.min_, Builtin.min2]
  rfl
theorem run_max7 {P : Program} (w : World) (ts : Array TypeId) (t : TypeId) (a b c d e f g : Int) :
    (Builtin.max_ ts t #[.int .i64 a, .int .i64 b, .int .i64 c, .int .i64 d, .int .i64 e, .int .i64 f, .int .i64 g]).run P w = .ok (.int .i64 (max7 a b c d e f g)) w := by
  simp [Builtin.max_, Builtin.max2]
  rfl
theorem lessOf_ge {x y z : Int} (h1 : z ≤ x) (h2 : z ≤ y) : z ≤ lessOf x y := by unfold lessOf; split <;> omega
theorem moreOf_le {x y z : Int} (h1 : x ≤ z) (h2 : y ≤ z) : moreOf x y ≤ z := by unfold moreOf; split <;> omega
/-- how many bricks of a kind were moulded -/
def Wa.sum (x : Wa) : Int := x.wet + x.dry + x.burning + x.fired + x.laid + x.broken
theorem okW_min {x : Wa} (h : OkW x) : 0 ≤ min7 x.wet x.dry x.burning x.fired x.laid x.broken x.missing := by
  obtain ⟨h1, h2, h3, h4, h5, h6, h7, -, -⟩ := h
  exact lessOf_ge (lessOf_ge (lessOf_ge (lessOf_ge (lessOf_ge (lessOf_ge h1 h2) h3) h4) h5) h6) h7
theorem okW_max {x : Wa} (h : OkW x) : max7 x.wet x.dry x.burning x.fired x.laid x.broken x.missing ≤ 1000000000 := by
  obtain ⟨h1, h2, h3, h4, h5, h6, h7, h8, h9⟩ := h
  exact moreOf_le (moreOf_le (moreOf_le (moreOf_le (moreOf_le (moreOf_le (by omega) (by omega)) (by omega)) (by omega)) (by omega)) (by omega)) (by omega)
theorem mouldX_ok {x : Wa} (h : OkW x) {m : Int} (h0 : 0 ≤ m) : OkW (mouldX x m) ∧ (mouldX x m).laid = x.laid ∧ (mouldX x m).broken = x.broken ∧ (mouldX x m).burning = x.burning ∧ (mouldX x m).sum = (if mouldE x m = 0 then x.sum + m else x.sum) ∧ (mouldE x m ≠ 0 → mouldX x m = x) := by
  obtain ⟨h1, h2, h3, h4, h5, h6, h7, h8, h9⟩ := h
  unfold mouldX mouldE
  by_cases hf : 1000000000 < x.wet + x.dry + x.burning + x.fired + x.laid + x.broken + m
  · rw [if_pos hf, if_pos hf]
    exact ⟨⟨h1, h2, h3, h4, h5, h6, h7, h8, h9⟩, rfl, rfl, rfl, rfl, fun _ => rfl⟩
  · rw [if_neg hf, if_neg hf]
    refine ⟨⟨by show 0 ≤ x.wet + m; omega, h2, h3, h4, h5, h6, h7, by show x.wet + m + x.dry + x.burning + x.fired + x.laid + x.broken ≤ _; omega, h9⟩, rfl, rfl, rfl, ?_, fun h => absurd rfl h⟩
    rw [if_pos rfl]
    show x.wet + m + x.dry + x.burning + x.fired + x.laid + x.broken = x.wet + x.dry + x.burning + x.fired + x.laid + x.broken + m
    omega
theorem dryX_ok {x : Wa} (h : OkW x) {m br : Int} (h0 : 0 ≤ m) : OkW (dryX x m br) ∧ (dryX x m br).laid = x.laid ∧ x.broken ≤ (dryX x m br).broken ∧ (dryX x m br).burning = x.burning ∧ (dryX x m br).sum = x.sum ∧ (dryE x m br ≠ 0 → dryX x m br = x) := by
  obtain ⟨h1, h2, h3, h4, h5, h6, h7, h8, h9⟩ := h
  unfold dryX dryE
  by_cases hb : 0 ≤ br ∧ br ≤ m
  · rw [if_neg (show ¬ ¬ (0 ≤ br ∧ br ≤ m) from fun h => h hb), if_neg (show ¬ ¬ (0 ≤ br ∧ br ≤ m) from fun h => h hb)]
    by_cases hf : x.wet < m
    · rw [if_pos hf, if_pos hf]
      exact ⟨⟨h1, h2, h3, h4, h5, h6, h7, h8, h9⟩, rfl, Int.le_refl _, rfl, rfl, fun _ => rfl⟩
    · rw [if_neg hf, if_neg hf]
      refine ⟨⟨by show 0 ≤ x.wet - m; omega, by show 0 ≤ x.dry + m - br; omega, h3, h4, h5, by show 0 ≤ x.broken + br; omega, h7, by show x.wet - m + (x.dry + m - br) + x.burning + x.fired + x.laid + (x.broken + br) ≤ _; omega, by show x.missing ≤ x.broken + br; omega⟩, rfl, by show x.broken ≤ x.broken + br; omega, rfl, ?_, fun h => absurd rfl h⟩
      show x.wet - m + (x.dry + m - br) + x.burning + x.fired + x.laid + (x.broken + br) = x.wet + x.dry + x.burning + x.fired + x.laid + x.broken
      omega
  · rw [if_pos hb, if_pos hb]
    exact ⟨⟨h1, h2, h3, h4, h5, h6, h7, h8, h9⟩, rfl, Int.le_refl _, rfl, rfl, fun _ => rfl⟩
theorem layX_ok {x : Wa} (h : OkW x) {m : Int} (h0 : 0 ≤ m) : OkW (layX x m) ∧ (layX x m).laid = (if layE x m = 0 then x.laid + m else x.laid) ∧ x.broken ≤ (layX x m).broken ∧ (layX x m).burning = x.burning ∧ (layX x m).sum = x.sum ∧ (layE x m ≠ 0 → layX x m = x) := by
  obtain ⟨h1, h2, h3, h4, h5, h6, h7, h8, h9⟩ := h
  unfold layX layE
  by_cases hf : x.fired < m
  · rw [if_pos hf, if_pos hf]
    exact ⟨⟨h1, h2, h3, h4, h5, h6, h7, h8, h9⟩, rfl, Int.le_refl _, rfl, rfl, fun _ => rfl⟩
  · rw [if_neg hf, if_neg hf, if_pos rfl]
    refine ⟨⟨h1, h2, h3, by show 0 ≤ x.fired - m; omega, by show 0 ≤ x.laid + m; omega, h6, h7, by show x.wet + x.dry + x.burning + (x.fired - m) + (x.laid + m) + x.broken ≤ _; omega, h9⟩, rfl, Int.le_refl _, rfl, ?_, fun h => absurd rfl h⟩
    show x.wet + x.dry + x.burning + (x.fired - m) + (x.laid + m) + x.broken = x.wet + x.dry + x.burning + x.fired + x.laid + x.broken
    omega
end Go.Proofs.YtagjeeimglecnaaDoor
/- Chapter 8: one batch into the kiln, and out of it. -/
namespace Go.Proofs.YtagjeeimglecnaaDoor
open Go Go.RowKit Go.Shelf
set_option maxRecDepth 100000
def fireE (x : Wa) (N sp room : Int) : Int := if N < 1 then 2 else if x.dry < N then 9 else if room < N * sp then 8 else 0
def fireX (x : Wa) (N : Int) : Wa := (x.put 1 (x.dry - N)).put 2 (x.burning + N)
theorem fire_one (b S n k c ab aoff sb soff sc : Nat) (room N : Int) (sp : Nat → Int) (ws : Nat → Wa) (w : World) (hbk : Blk w b 81 #[.slice (some ⟨sb, soff, none⟩) n sc, .int .i64 room, .slice (some ⟨S, 0, none⟩) n n, .slice none 0 0]) (hn1 : 1 ≤ n) (hn : n ≤ 20) (hS : Stores w S n ws) (ho : ∀ k, k < n → OkW (ws k)) (hsp : IR w w.heap.size (some ⟨sb, soff, none⟩) n sp) (hspb : ∀ k, k < n → 1 ≤ sp k ∧ sp k ≤ 1000) (habS : ab ≠ S) (habb : ab ≠ b)
    (hR : PI w w.heap.size (some ⟨ab, aoff, none⟩) 1 (fun _ => (k : Int)) (fun _ => N)) (hk : k < n) (hN : N ≤ 1000000000) :
    Calls Tryd.prog 11 #[.pointer (some ⟨b, 0, none⟩), .slice (some ⟨ab, aoff, none⟩) 1 c] w fun e w' =>
      e = .returned (.int .i64 (fireE (ws k) N (sp k) room)) ∧ ((fireE (ws k) N (sp k) room ≠ 0 ∧ Below w.heap.size w w') ∨ (fireE (ws k) N (sp k) room = 0 ∧ ∃ ov, Blk w' b 81 #[.slice (some ⟨sb, soff, none⟩) n sc, .int .i64 room, .slice (some ⟨S, 0, none⟩) n n, ov] ∧ w'.ownsRow w.heap.size 3 1 ov 1 (cellsOf 1 1 fun _ _ => .int .i64 k) ∧ Stores w' S n (upd ws k (fireX (ws k) N)) ∧ Apart w w' S b)) := by
  refine (fire_any b S n 1 c ab aoff sb soff sc room sp ws (fun _ => (k : Int)) (fun _ => N) w hbk hn1 hn hS ho hsp hspb habS habb (Nat.le_refl _) (by omega) hR (fun _ _ => ⟨by omega, by omega⟩)).mono ?_
  have e1 : batsE n ws (fun _ => (k : Int)) (fun _ => N) 1 = if N < 1 then 2 else if (ws k).dry < N then 9 else 0 := by
    show (if (0 : Int) ≠ 0 then 0 else batE n ws (fun _ => (k : Int)) (fun _ => N) 0) = _
    rw [if_neg (by omega)]
    unfold batE
    dsimp only
    rw [if_neg (by omega), if_neg (by simp [anyTo]), Int.toNat_natCast]
    by_cases h : N < 1
    · rw [if_pos (by omega), if_pos h]
    · rw [if_neg (by omega), if_neg h]
  have e2 : spaceTo sp (fun _ => (k : Int)) (fun _ => N) 1 = N * sp k := by
    show 0 + N * sp ((k : Int)).toNat = _
    rw [Int.toNat_natCast]; omega
  have e3 : fireW ws (fun _ => (k : Int)) (fun _ => N) 1 = upd ws k (fireX (ws k) N) := by
    show upd ws ((k : Int)).toNat _ = _
    rw [Int.toNat_natCast]
    rfl
  rintro e w' h
  unfold FirePost at h
  rw [e1, e2, e3] at h
  unfold fireE
  rcases h with ⟨h1, rfl, h2⟩ | ⟨h1, h2, rfl, h3⟩ | ⟨h1, h2, rfl, h3⟩
  · by_cases a : N < 1
    · simp only [if_pos a] at h1 ⊢
      exact ⟨trivial, .inl ⟨h1, h2⟩⟩
    · simp only [if_neg a] at h1 ⊢
      by_cases a2 : (ws k).dry < N
      · simp only [if_pos a2] at h1 ⊢
        exact ⟨trivial, .inl ⟨h1, h2⟩⟩
      · simp only [if_neg a2] at h1
        exact absurd rfl h1
  · by_cases a : N < 1
    · simp only [if_pos a] at h1; omega
    by_cases a2 : (ws k).dry < N
    · simp only [if_neg a, if_pos a2] at h1; omega
    simp only [if_neg a, if_neg a2, if_pos h2]
    exact ⟨trivial, .inl ⟨by omega, h3⟩⟩
  · by_cases a : N < 1
    · simp only [if_pos a] at h1; omega
    by_cases a2 : (ws k).dry < N
    · simp only [if_neg a, if_pos a2] at h1; omega
    simp only [if_neg a, if_neg a2, if_neg (by omega : ¬ room < N * sp k)]
    exact ⟨trivial, .inr ⟨trivial, h3⟩⟩
theorem fireX_ok {x : Wa} (h : OkW x) {N : Int} (h0 : 1 ≤ N) (h1 : N ≤ x.dry) : OkW (fireX x N) ∧ (fireX x N).laid = x.laid ∧ (fireX x N).broken = x.broken ∧ (fireX x N).burning = x.burning + N ∧ (fireX x N).sum = x.sum := by
  obtain ⟨h1, h2, h3, h4, h5, h6, h7, h8, h9⟩ := h
  refine ⟨⟨h1, by show 0 ≤ x.dry - N; omega, by show 0 ≤ x.burning + N; omega, h4, h5, h6, h7, by show x.wet + (x.dry - N) + (x.burning + N) + x.fired + x.laid + x.broken ≤ _; omega, h9⟩, rfl, rfl, rfl, ?_⟩
  show x.wet + (x.dry - N) + (x.burning + N) + x.fired + x.laid + x.broken = x.wet + x.dry + x.burning + x.fired + x.laid + x.broken
  omega
theorem drawn_ok {x : Wa} (h : OkW x) {l : Int} (h0 : 0 ≤ l) (h1 : l ≤ x.burning) : OkW (drawn x l) ∧ (drawn x l).laid = x.laid ∧ x.broken ≤ (drawn x l).broken ∧ (drawn x l).burning = 0 ∧ (drawn x l).sum = x.sum := by
  obtain ⟨h1, h2, h3, h4, h5, h6, h7, h8, h9⟩ := h
  refine ⟨⟨h1, h2, by show 0 ≤ x.burning - l - (x.burning - l); omega, by show 0 ≤ x.fired + (x.burning - l); omega, h5, by show 0 ≤ x.broken + l; omega, h7, by show x.wet + x.dry + (x.burning - l - (x.burning - l)) + (x.fired + (x.burning - l)) + x.laid + (x.broken + l) ≤ _; omega, by show x.missing ≤ x.broken + l; omega⟩, rfl, by show x.broken ≤ x.broken + l; omega, by show x.burning - l - (x.burning - l) = 0; omega, ?_⟩
  show x.wet + x.dry + (x.burning - l - (x.burning - l)) + (x.fired + (x.burning - l)) + x.laid + (x.broken + l) = x.wet + x.dry + x.burning + x.fired + x.laid + x.broken
  omega
end Go.Proofs.YtagjeeimglecnaaDoor
/- Chapter 8: a kiln with one kind emptied. -/
namespace Go.Proofs.YtagjeeimglecnaaDoor
open Go Go.RowKit Go.Shelf
set_option maxRecDepth 100000
def drawE (x : Wa) (l : Int) : Int := if 0 ≤ l ∧ l ≤ x.burning then 0 else 2
theorem draw_one (b S n k oc c ab aoff gb goff : Nat) (room l : Int) (spv : Value) (ws : Nat → Wa) (w : World) (hbk : Blk w b 81 #[spv, .int .i64 room, .slice (some ⟨S, 0, none⟩) n n, .slice (some ⟨gb, goff, none⟩) 1 oc]) (hn1 : 1 ≤ n) (hn : n ≤ 20) (hS : Stores w S n ws) (ho : ∀ k, k < n → OkW (ws k)) (hG : IR w w.heap.size (some ⟨gb, goff, none⟩) 1 (fun _ => (k : Int))) (hA : IR w w.heap.size (some ⟨ab, aoff, none⟩) 1 (fun _ => l))
    (hk : k < n) (habS : ab ≠ S) (habb : ab ≠ b) (hgbS : gb ≠ S) (hgbb : gb ≠ b) :
    Calls Tryd.prog 12 #[.pointer (some ⟨b, 0, none⟩), .slice (some ⟨ab, aoff, none⟩) 1 c] w fun e w' =>
      e = .returned (.int .i64 (drawE (ws k) l)) ∧ ((drawE (ws k) l ≠ 0 ∧ Below w.heap.size w w') ∨ (drawE (ws k) l = 0 ∧ Blk w' b 81 #[spv, .int .i64 room, .slice (some ⟨S, 0, none⟩) n n, .slice none 0 0] ∧ Stores w' S n (upd ws k (drawn (ws k) l)) ∧ Apart w w' S b)) := by
  refine (draw_any b S n 1 oc c ab aoff gb goff room spv ws (fun _ => (k : Int)) (fun _ => l) w hbk hn1 hn hS ho (Nat.le_refl _) (by omega) hG hA (fun _ _ => by omega) (fun i j h1 h2 => by omega) habS habb hgbS hgbb).mono ?_
  have e1 : anyTo (lostB ws (fun _ => (k : Int)) (fun _ => l)) 1 = ! decide (0 ≤ l ∧ l ≤ (ws k).burning) := by
    show (false || lostB ws (fun _ => (k : Int)) (fun _ => l) 0) = _
    rw [Bool.false_or]
    unfold lostB
    dsimp only
    rw [Int.toNat_natCast]
  have e2 : drawW ws (fun _ => (k : Int)) (fun _ => l) 1 = upd ws k (drawn (ws k) l) := by
    show upd ws ((k : Int)).toNat _ = _
    rw [Int.toNat_natCast]
    rfl
  rintro e w' h
  unfold DrawPost at h
  rw [e1, e2] at h
  unfold drawE
  by_cases a : 0 ≤ l ∧ l ≤ (ws k).burning
  · rw [decide_eq_true a] at h
    rcases h with ⟨h1, -⟩ | ⟨-, rfl, h2⟩
    · cases h1
    · simp only [if_pos a]
      exact ⟨trivial, .inr ⟨trivial, h2⟩⟩
  · rw [decide_eq_false a] at h
    rcases h with ⟨-, rfl, h2⟩ | ⟨h1, -⟩
    · simp only [if_neg a]
      exact ⟨trivial, .inl ⟨by omega, h2⟩⟩
    · cases h1
/-- a list of ints of its own block: its address -/
theorem own_addr {w : World} {base n : Nat} {e : TypeId} {ov : Value} {f : Nat → Int} (h : w.ownsRow base e 1 ov n (cellsOf 1 n fun j _ => .int .i64 (f j))) (hn : 0 < n) :
    ∃ g oc, ov = .slice (some ⟨g, 0, none⟩) n oc ∧ base ≤ g ∧ IR w w.heap.size (some ⟨g, 0, none⟩) n f := by
  obtain ⟨g, cap, rfl, -, hlt⟩ := h.form hn
  obtain ⟨A', c', hv, hE, -⟩ := ER.of_own h (by omega)
  injection hv with h1 h2 h3
  subst h1
  exact ⟨g, cap, rfl, (h.lt g rfl).1, hE⟩
end Go.Proofs.YtagjeeimglecnaaDoor
/- Layings of library functions, in plain declarations (written by the kit's lay-plain.mjs). -/
namespace Go.Proofs.YtagjeeimglecnaaDoor
open Go.Shelf
def lays160_ren : Go.Shelf.Ren := ⟨fun | 160 => 65 | 232 => 78 | 231 => 77 | 227 => 79 | 234 => 81 | 233 => 80 | 236 => 83 | 235 => 82 | 228 => 89 | 271 => 92 | 151 => 91 | 197 => 90 | 120 => 95 | 152 => 94 | 260 => 93 | 137 => 96 | 119 => 97 | 224 => 98 | 225 => 99 | 217 => 100 | 266 => 101 | n => n, fun | 9 => 9 | 4 => 4 | 3 => 3 | 5 => 5 | 117 => 174 | 116 => 173 | 0 => 0 | 124 => 177 | 21 => 21 | 105 => 184 | 46 => 65 | 119 => 190 | 139 => 193 | 138 => 192 | n => n, fun | 3 => 1 | 4 => 2 | n => n⟩
theorem lays160 : Go.Proofs.Lays.n160 Tryd.prog lays160_ren := {
  mixed := by kernel_rfl
  f119 := Tryd.func97.trans (congrArg some (by kernel_rfl))
  f120 := Tryd.func95.trans (congrArg some (by kernel_rfl))
  f137 := Tryd.func96.trans (congrArg some (by kernel_rfl))
  f151 := Tryd.func91.trans (congrArg some (by kernel_rfl))
  f152 := Tryd.func94.trans (congrArg some (by kernel_rfl))
  f160 := Tryd.func65.trans (congrArg some (by kernel_rfl))
  f197 := Tryd.func90.trans (congrArg some (by kernel_rfl))
  f217 := Tryd.func100.trans (congrArg some (by kernel_rfl))
  f224 := Tryd.func98.trans (congrArg some (by kernel_rfl))
  f225 := Tryd.func99.trans (congrArg some (by kernel_rfl))
  f227 := Tryd.func79.trans (congrArg some (by kernel_rfl))
  f228 := Tryd.func89.trans (congrArg some (by kernel_rfl))
  f231 := Tryd.func77.trans (congrArg some (by kernel_rfl))
  f232 := Tryd.func78.trans (congrArg some (by kernel_rfl))
  f233 := Tryd.func80.trans (congrArg some (by kernel_rfl))
  f234 := Tryd.func81.trans (congrArg some (by kernel_rfl))
  f235 := Tryd.func82.trans (congrArg some (by kernel_rfl))
  f236 := Tryd.func83.trans (congrArg some (by kernel_rfl))
  f260 := Tryd.func93.trans (congrArg some (by kernel_rfl))
  f266 := Tryd.func101.trans (congrArg some (by kernel_rfl))
  f271 := Tryd.func92.trans (congrArg some (by kernel_rfl))
  t0 := Tryd.underlying0
  a0 := Tryd.isAgg0
  z0 := Tryd.sizeOf0
  v0 := Tryd.zeroValue0
  t3 := Tryd.underlying3
  a3 := Tryd.isAgg3
  z3 := Tryd.sizeOf3
  v3 := Tryd.zeroValue3
  t4 := Tryd.underlying4
  a4 := Tryd.isAgg4
  z4 := Tryd.sizeOf4
  v4 := Tryd.zeroValue4
  t5 := Tryd.underlying5
  a5 := Tryd.isAgg5
  z5 := Tryd.sizeOf5
  v5 := Tryd.zeroValue5
  t9 := Tryd.underlying9
  a9 := Tryd.isAgg9
  z9 := Tryd.sizeOf9
  v9 := Tryd.zeroValue9
  t21 := Tryd.underlying21
  a21 := Tryd.isAgg21
  z21 := Tryd.sizeOf21
  v21 := Tryd.zeroValue21
  t46 := Tryd.underlying65
  a46 := Tryd.isAgg65
  z46 := Tryd.sizeOf65
  v46 := Tryd.zeroValue65
  t105 := Tryd.underlying184
  a105 := Tryd.isAgg184
  z105 := Tryd.sizeOf184
  v105 := Tryd.zeroValue184
  t116 := Tryd.underlying173
  a116 := Tryd.isAgg173
  z116 := Tryd.sizeOf173
  t117 := Tryd.underlying174
  a117 := Tryd.isAgg174
  z117 := Tryd.sizeOf174
  v117 := Tryd.zeroValue174
  t119 := Tryd.underlying190
  a119 := Tryd.isAgg190
  z119 := Tryd.sizeOf190
  t124 := Tryd.underlying177
  a124 := Tryd.isAgg177
  z124 := Tryd.sizeOf177
  v124 := Tryd.zeroValue177
  t138 := Tryd.underlying192
  a138 := Tryd.isAgg192
  z138 := Tryd.sizeOf192
  v138 := Tryd.zeroValue192
  t139 := Tryd.underlying193
  a139 := Tryd.isAgg193
  z139 := Tryd.sizeOf193
  v139 := Tryd.zeroValue193
  g3 := by kernel_rfl
  g4 := by kernel_rfl }
end Go.Proofs.YtagjeeimglecnaaDoor
/- Words of this proof family that hang on no chapter: what stays beside a block that is written (KX); own lists lie apart. -/
namespace Go.Proofs.YtagjeeimglecnaaDoor
open Go Go.RowKit Go.Shelf
set_option maxHeartbeats 2000000
set_option maxRecDepth 100000
theorem run_append_none0 {P : Program} {w : World} {base : Nat} (t ty e : TypeId) (i : TypeInfo) (size : Nat) (ht : P.underlying t = some (.slice e)) (hi : P.info? e = some i)
    (v : Value) (n c : Nat) (xs : List Value) (hown : w.ownsRow base e size v n xs) :
    (Builtin.append_ #[t, t] ty #[v, .slice none 0 c]).run P w = .ok v w := by
  rcases hown.2 with ⟨rfl, rfl⟩ | ⟨g, cap, cur, rfl, _, _, hnc, _⟩
  · simp [Builtin.append_, run_underlying ht, sizeOf, typeInfo, hi, Builtin.lenOf, Builtin.firstCells]
  · simp [Builtin.append_, run_underlying ht, sizeOf, typeInfo, hi, Builtin.lenOf, Builtin.firstCells, hnc, storeCells]
/-- what stays where an editor writes: all but its own block and the block of its list -/
structure KX (w w' : World) (X : Nat) (row : Option Nat) : Prop where
  os : w'.os = w.os
  tape : w'.tape = w.tape
  output : w'.output = w.output
  size : w.heap.size ≤ w'.heap.size
  block : ∀ k, k < w.heap.size → k ≠ X → some k ≠ row → w'.heap[k]? = w.heap[k]?
theorem KX.refl (w : World) (X : Nat) (row : Option Nat) : KX w w X row := ⟨rfl, rfl, rfl, Nat.le_refl _, fun _ _ _ _ => rfl⟩
theorem KX.of_below {w w' : World} (X : Nat) (row : Option Nat) (h : Below w.heap.size w w') : KX w w' X row := ⟨h.os, h.tape, h.output, h.size, fun k hk _ _ => h.block k hk⟩
theorem KX.grown {w w1 w2 : World} {X : Nat} {row : Option Nat} (h : KX w w1 X row) (hg : w1.grownBy w2 row) : KX w w2 X row :=
  ⟨hg.os.trans h.os, hg.tape.trans h.tape, hg.output.trans h.output, Nat.le_trans h.size hg.size, fun k hk h1 h2 => (hg.block k (Nat.lt_of_lt_of_le hk h.size) h2).trans (h.block k hk h1 h2)⟩
theorem KX.set {w w1 : World} {X : Nat} {row : Option Nat} (h : KX w w1 X row) (i : Nat) (u : Value) : KX w (w1.setCell ⟨X, i, none⟩ u) X row := by
  have hb : Below X w1 (w1.setCell ⟨X, i, none⟩ u) := (Below.refl X w1).setCell (p := ⟨X, i, none⟩) (Nat.le_refl _) u
  exact ⟨hb.os.trans h.os, hb.tape.trans h.tape, hb.output.trans h.output, Nat.le_trans h.size hb.size, fun k hk h1 h2 => (Below.heap_setCell w1 ⟨X, i, none⟩ u k h1).trans (h.block k hk h1 h2)⟩
/-- one after another: the later list's block is the earlier one's, or new -/
theorem KX.trans {w w1 w2 : World} {X : Nat} {row row1 : Option Nat} (h : KX w w1 X row) (h2 : KX w1 w2 X row1) (hr : row1 = row ∨ ∀ k, row1 = some k → w.heap.size ≤ k) : KX w w2 X row :=
  ⟨h2.os.trans h.os, h2.tape.trans h.tape, h2.output.trans h.output, Nat.le_trans h.size h2.size, fun k hk h1 h3 => by
    refine (h2.block k (Nat.lt_of_lt_of_le hk h.size) h1 ?_).trans (h.block k hk h1 h3)
    rcases hr with rfl | hr
    · exact h3
    · intro e
      have := hr k e.symm
      omega⟩
theorem Blk.kx {w w' : World} {X : Nat} {row : Option Nat} {g : Nat} {t : TypeId} {cs : Array Value} (h : Blk w g t cs) (hk : KX w w' X row) (h1 : g ≠ X) (h2 : some g ≠ row) : Blk w' g t cs := (hk.block g h.lt h1 h2).trans h
/-- own lists of different types lie apart -/
theorem own_own_ne {w : World} {b1 b2 : Nat} {e1 e2 : TypeId} {s1 s2 n1 n2 : Nat} {v1 v2 : Value} {x1 x2 : List Value} (h1 : w.ownsRow b1 e1 s1 v1 n1 x1) (h2 : w.ownsRow b2 e2 s2 v2 n2 x2) (hne : e1 ≠ e2) :
    v1.ownBlock = none ∨ v1.ownBlock ≠ v2.ownBlock := by
  rcases h2.2 with ⟨rfl, -⟩ | ⟨g, cap, cur, rfl, -, hg, -⟩
  · cases hv : v1.ownBlock with
    | none => exact .inl rfl
    | some k => exact .inr (by simp [Value.ownBlock])
  · refine .inr (fun e => own_blk_ne h1 (g := g) (t := e2) (cs := cur) hg hne ?_)
    rw [e]; rfl
/-- an own list stays where an editor writes -/
theorem own_kx {w w' : World} {X : Nat} {row : Option Nat} {b n s : Nat} {t : TypeId} {v : Value} {xs : List Value} (h : w.ownsRow b t s v n xs) (hk : KX w w' X row) (h1 : v.ownBlock ≠ some X) (h2 : v.ownBlock = none ∨ v.ownBlock ≠ row) : w'.ownsRow b t s v n xs := by
  refine ⟨h.1, ?_⟩
  rcases h.2 with ⟨rfl, h0⟩ | ⟨g, cap, cur, rfl, hb, hg, h3⟩
  · exact .inl ⟨rfl, h0⟩
  · refine .inr ⟨g, cap, cur, rfl, hb, ?_, h3⟩
    have hlt := (World.ownsRow.lt h g rfl).2
    rw [hk.block g hlt (fun e => h1 (by rw [e]; rfl)) ?_]
    · exact hg
    · rcases h2 with h2 | h2
      · cases h2
      · exact h2
theorem none_or {v : Value} : v.ownBlock = none ∨ v.ownBlock ≠ none := by
  cases v.ownBlock with
  | none => exact .inl rfl
  | some k => exact .inr (by simp)
theorem blk_kx {W W' : World} {X g : Nat} {row : Option Nat} {t : TypeId} {cs : Array Value} (h : Blk W g t cs) (hk : KX W W' X row) (h1 : g ≠ X) (h2 : some g ≠ row) : Blk W' g t cs := (hk.block g h.lt h1 h2).trans h
theorem own_low {W : World} {b b' : Nat} {e : TypeId} {size n : Nat} {v : Value} {xs : List Value} (h : W.ownsRow b e size v n xs) (hb : b' ≤ b) : W.ownsRow b' e size v n xs := by
  refine ⟨h.1, ?_⟩
  rcases h.2 with h2 | ⟨g, cap, cur, h2, h3, h4⟩
  · exact .inl h2
  · exact .inr ⟨g, cap, cur, h2, Nat.le_trans hb h3, h4⟩
theorem own_grown {W W' : World} {b : Nat} {e : TypeId} {size n : Nat} {v : Value} {xs : List Value} {row : Option Nat} (h : W.ownsRow b e size v n xs) (hg : W.grownBy W' row) (h2 : v.ownBlock = none ∨ v.ownBlock ≠ row) : W'.ownsRow b e size v n xs :=
  own_kx h ((KX.refl W W.heap.size row).grown hg) (fun he => by
    have := (World.ownsRow.lt h W.heap.size he).2
    omega) h2
theorem ne_or {a b : Option Nat} (h : a = none ∨ b = none ∨ a ≠ b) : (a = none ∨ a ≠ b) ∧ (b = none ∨ b ≠ a) := by
  rcases h with h | h | h
  · subst h
    cases b with
    | none => exact ⟨.inl rfl, .inl rfl⟩
    | some b => exact ⟨.inl rfl, .inr (by simp)⟩
  · subst h
    cases a with
    | none => exact ⟨.inl rfl, .inl rfl⟩
    | some a => exact ⟨.inr (by simp), .inl rfl⟩
  · exact ⟨.inr h, .inr (fun e => h e.symm)⟩
end Go.Proofs.YtagjeeimglecnaaDoor
/- Words that hang on no chapter: lists of ints that are read; own lists of ints. -/
namespace Go.Proofs.YtagjeeimglecnaaDoor
open Go Go.RowKit Go.Shelf
set_option maxHeartbeats 2000000
set_option maxRecDepth 100000
theorem VR1.at_ {w : World} {B n : Nat} {A : Option Addr} {u : Nat → Value} (h : ER w B 1 A n fun k _ => u k) {k : Nat} (hk : k < n) :
    ∃ b off, A = some ⟨b, off, none⟩ ∧ b < B ∧ w.cell? ⟨b, off + k, none⟩ = some (u k) := by
  obtain ⟨b, off, hA, hlt, hc⟩ := h (by omega)
  exact ⟨b, off, hA, hlt, by simpa using hc k 0 hk (by omega)⟩
/-- a list of ints that is read -/
def LI (w : World) (B : Nat) (A : Option Addr) (l : List Int) : Prop := ER w B 1 A l.length fun k _ => .int .i64 (l.getD k 0)
theorem getD_allI {l m : List Int} (hl : l.length = m.length) (h : ∀ k, k < l.length → l.getD k 0 = m.getD k 0) : l = m := by
  apply List.ext_getElem hl
  intro k h1 h2
  have := h k h1
  rwa [List.getD_eq_getElem?_getD, List.getD_eq_getElem?_getD, List.getElem?_eq_getElem h1, List.getElem?_eq_getElem h2] at this
theorem info_int' : (Tryd.prog.info? 3).map (fun i => (i.zero, i.size, i.bytes)) = some (some (.int .i64 0), 1, 8) := by kernel_rfl
def intJ (l : List Int) : List Value := l.map (.int .i64)
theorem intJ_one (l : List Int) : ∀ u ∈ intJ l, u.oneCell' = true := by
  intro u hu
  obtain ⟨x, -, rfl⟩ := List.mem_map.1 hu
  rfl
theorem intJ_len (l : List Int) : (intJ l).length = l.length := by simp [intJ]
theorem intJ_append (l m : List Int) : intJ (l ++ m) = intJ l ++ intJ m := by simp [intJ]
/-- an own list of intJ -/
def OwnJ (W : World) (n0 : Nat) (v : Value) (l : List Int) : Prop := W.ownsRow n0 3 1 v l.length (intJ l)
theorem OwnJ.nil (W : World) (n0 : Nat) : OwnJ W n0 (.slice none 0 0) [] := ⟨rfl, .inl ⟨rfl, rfl⟩⟩
theorem OwnJ.ext {W W' : World} {n0 : Nat} {v : Value} {l : List Int} (h : OwnJ W n0 v l) (hb : Below W.heap.size W W') : OwnJ W' n0 v l := ownBelow h hb
theorem intJ_at (l : List Int) {k : Nat} (hk : k < l.length) : (intJ l)[k]? = some (.int .i64 (l.getD k 0)) := by
  unfold intJ
  rw [List.getElem?_map, List.getElem?_eq_getElem hk, List.getD_eq_getElem?_getD, List.getElem?_eq_getElem hk]; rfl
theorem OwnJ.pushes {W : World} {base : Nat} {v : Value} {l : List Int} (h : OwnJ W base v l) (A : Option Addr) (c : Nat) (m : List Int) (hA : LI W W.heap.size A m) (hl : l.length + m.length ≤ 1000000) (hb : base ≤ W.heap.size) :
    ∃ v' w', (Builtin.append_ #[34, 34] 34 #[v, .slice A m.length c]).run Tryd.prog W = .ok v' w' ∧ OwnJ w' base v' (l ++ m) ∧ W.grownBy w' v.ownBlock ∧ (v'.ownBlock = v.ownBlock ∨ v'.ownBlock = some W.heap.size) := by
  obtain ⟨i0, hi, hz0, hz1, hz2⟩ := info_parts info_int'
  cases A with
  | none =>
    have hm : m = [] := by
      rcases hm : m with _ | ⟨x, m⟩
      · rfl
      · exfalso
        obtain ⟨b, off, hA, -⟩ := hA (by rw [hm]; simp)
        cases hA
    subst hm
    refine ⟨v, W, run_append_none0 (P := Tryd.prog) _ _ 3 i0 1 Tryd.underlying34 hi v l.length c (intJ l) h, by simpa using h, World.grownBy.refl _ _, .inl rfl⟩
  | some a =>
    have hcells : ∀ j u, (intJ m)[j]? = some u → W.cell? (a.add j) = some u := by
      intro j u hj
      have hlt : j < m.length := by
        have := (List.getElem?_eq_some_iff.1 hj).1
        rwa [intJ_len] at this
      obtain ⟨b, off, hA', -, hc⟩ := VR1.at_ hA hlt
      injection hA' with hA'
      subst hA'
      rw [intJ_at m hlt] at hj
      have e4 : ((⟨b, off, none⟩ : Addr).add j) = ⟨b, off + j, none⟩ := by simp [Addr.add]
      rw [e4, ← hj]
      exact hc
    obtain ⟨v', w', hr, h2, h3, -, h4⟩ := run_append_own_at (P := Tryd.prog) (w := W) base 34 34 3 i0 _ 1 8 Tryd.underlying34 hi hz0 hz1 hz2 rfl (by decide) v l.length (intJ l) h
      a m.length c (intJ m) (by rw [intJ_len]; omega) hcells (intJ_one m) (by unfold maxLen; omega) (by omega) hb
    refine ⟨v', w', hr, ?_, h3, h4⟩
    unfold OwnJ
    rw [intJ_append, List.length_append]
    exact h2
theorem OwnJ.made0 (W : World) : OwnJ (W.alloc (.cells #[] 3)) W.heap.size (.slice (some ⟨W.heap.size, 0, none⟩) 0 0) [] :=
  World.ownsRow_made W #[] 0 (Nat.le_refl _) (by unfold maxLen; omega) rfl
theorem LI.one (W : World) (x : Int) : LI (W.alloc (.cells #[.int .i64 x] 3)) (W.alloc (.cells #[.int .i64 x] 3)).heap.size (some ⟨W.heap.size, 0, none⟩) [x] := fun _ => by
  refine ⟨W.heap.size, 0, rfl, by simp, fun k i hk hi => ?_⟩
  have hk : k = 0 := by simp at hk; exact hk
  obtain rfl := hk
  obtain rfl : i = 0 := by omega
  have h := (Blk.new W 3 #[.int .i64 x]).cell 0
  simpa using h
/-- an int is put behind an own list -/
theorem OwnJ.push {W : World} {base : Nat} {v : Value} {l : List Int} (h : OwnJ W base v l) (x : Int) (hl : l.length ≤ 100000) (hb : base ≤ W.heap.size) :
    ∃ v' w', (Builtin.append_ #[34, 34] 34 #[v, .slice (some ⟨W.heap.size, 0, none⟩) 1 1]).run Tryd.prog (W.alloc (.cells #[.int .i64 x] 3)) = .ok v' w' ∧ OwnJ w' base v' (l ++ [x]) ∧ (W.alloc (.cells #[.int .i64 x] 3)).grownBy w' v.ownBlock := by
  have hBA : Below W.heap.size W (W.alloc (.cells #[.int .i64 x] 3)) := (Below.refl _ _).alloc (Nat.le_refl _) _
  obtain ⟨v', w', hr, ho, hg, -⟩ := (h.ext hBA).pushes (some ⟨W.heap.size, 0, none⟩) 1 [x] (LI.one W x) (by simp; omega) (Nat.le_trans hb hBA.size)
  exact ⟨v', w', hr, ho, hg⟩
theorem OwnJ.li {W : World} {n0 : Nat} {A : Option Addr} {n c : Nat} {l : List Int} (h : OwnJ W n0 (.slice A n c) l) : n = l.length ∧ LI W W.heap.size A l := by
  obtain ⟨A', c', e⟩ := own_shape h
  injection e with e1 e2 e3
  subst e2
  refine ⟨rfl, fun hn => ?_⟩
  rcases h.2 with ⟨h1, h2⟩ | ⟨g, cap, cur, h1, h2, h3, h4, h5, h6, h7⟩
  · omega
  · injection h1 with hA
    subst hA
    have hg := (World.ownsRow.lt h g rfl).2
    refine ⟨g, 0, rfl, hg, fun k i hk hi => ?_⟩
    obtain rfl : i = 0 := by omega
    have hc := World.ownsRow.cells h (g := g) rfl k _ (intJ_at l hk)
    have e1 : ((⟨g, 0, none⟩ : Addr).add k) = ⟨g, 0 + k * 1 + 0, none⟩ := by simp [Addr.add]; omega
    rw [e1] at hc
    exact hc
end Go.Proofs.YtagjeeimglecnaaDoor
/- Words that hang on no chapter: small letters. -/
namespace Go.Proofs.YtagjeeimglecnaaDoor
open Go Go.RowKit Go.Shelf
set_option maxHeartbeats 2000000
set_option maxRecDepth 100000
abbrev Wd := ByteArray
def noW : Wd := ⟨#[]⟩
def azB : List UInt8 := [97, 98, 99, 100, 101, 102, 103, 104, 105, 106, 107, 108, 109, 110, 111, 112, 113, 114, 115, 116, 117, 118, 119, 120, 121, 122]
def lowerB (c : UInt8) : Bool := decide (97 ≤ c.toNat) && decide (c.toNat ≤ 122)
theorem az_iff (c : UInt8) : azB.contains c = lowerB c := by
  have h : ∀ n : Fin 256, azB.contains (UInt8.ofFin n) = lowerB (UInt8.ofFin n) := by decide
  exact h c.toFin
/-- a word -/
def wordB (s : ByteArray) : Bool := (decide (1 ≤ s.size) && decide (s.size ≤ 12)) && s.data.toList.all lowerB
theorem drop_all (p : UInt8 → Bool) : ∀ l : List UInt8, (l.dropWhile p).all p = l.all p
  | [] => rfl
  | x :: l => by
    rcases h : p x with _ | _
    · rw [List.dropWhile_cons_of_neg (by simp [h])]
    · rw [List.dropWhile_cons_of_pos h, drop_all p l, List.all_cons, h, Bool.true_and]
theorem drop_nil (p : UInt8 → Bool) : ∀ l : List UInt8, l.dropWhile p = [] ↔ l.all p = true
  | [] => by simp
  | x :: l => by
    rcases h : p x with _ | _
    · rw [List.dropWhile_cons_of_neg (by simp [h]), List.all_cons, h]; simp
    · rw [List.dropWhile_cons_of_pos h, drop_nil p l, List.all_cons, h, Bool.true_and]
theorem trimS_nil (l : List UInt8) : Go.Lib.trimS l azB = [] ↔ l.all lowerB = true := by
  have e : (fun c => azB.contains c) = lowerB := funext az_iff
  unfold Go.Lib.trimS Go.Lib.trimLeftS Go.Lib.trimRightS
  rw [e, drop_nil, List.all_reverse, drop_all, List.all_reverse]
theorem toList_data (s : ByteArray) : s.toList = s.data.toList := ByteArray.toList_eq s
theorem str_ne {x y : Wd} (h : x ≠ y) : (ByteArray.toList x == ByteArray.toList y) = false := by
  rw [toList_data, toList_data, beq_eq_false_iff_ne]
  intro e
  apply h
  cases x; cases y
  simp only [ByteArray.mk.injEq]
  exact Array.toList_inj.1 e
end Go.Proofs.YtagjeeimglecnaaDoor
/- Words that hang on no chapter: sets of small numbers as numbers of 16 bits. -/
namespace Go.Proofs.YtagjeeimglecnaaDoor
open Go Go.RowKit
set_option maxRecDepth 100000
/-- the set of the numbers below n of which p is true -/
def mkS (p : Nat → Bool) : Nat → Nat
  | 0 => 0
  | k + 1 => if p k then mkS p k ||| 2 ^ k else mkS p k
theorem mkS_lt (p : Nat → Bool) : ∀ n, mkS p n < 2 ^ n
  | 0 => by show 0 < 1; decide
  | n + 1 => by
    have ih := mkS_lt p n
    have h : 2 ^ n < 2 ^ (n + 1) := Nat.pow_lt_pow_right (by decide) (by omega)
    unfold mkS
    split
    · exact Nat.or_lt_two_pow (by omega) h
    · omega
theorem mkS_bit (p : Nat → Bool) : ∀ n i, (mkS p n).testBit i = (decide (i < n) && p i)
  | 0, i => by simp [mkS]
  | n + 1, i => by
    have ih := mkS_bit p n i
    unfold mkS
    by_cases hp : p n = true
    · rw [if_pos hp, Nat.testBit_or, ih, Nat.testBit_two_pow]
      by_cases h : i < n
      · have h1 : ¬ n = i := by omega
        simp [h, h1, show i < n + 1 by omega]
      · by_cases h2 : n = i
        · subst h2; simp [hp]
        · simp [h, h2, show ¬ i < n + 1 by omega]
    · rw [if_neg hp, ih]
      by_cases h : i < n
      · simp [h, show i < n + 1 by omega]
      · by_cases h2 : i = n
        · subst h2; simp [hp]
        · simp [h, show ¬ i < n + 1 by omega]
theorem bit_ge {s n i : Nat} (h : s < 2 ^ n) (hi : n ≤ i) : s.testBit i = false := Nat.testBit_lt_two_pow (Nat.lt_of_lt_of_le h (Nat.pow_le_pow_right (by decide) hi))
theorem mkS_self {s n : Nat} (h : s < 2 ^ n) : mkS s.testBit n = s := by
  refine Nat.eq_of_testBit_eq fun i => ?_
  rw [mkS_bit]
  by_cases hi : i < n
  · simp [hi]
  · rw [bit_ge h (by omega)]; simp
theorem mkS_congr {p q : Nat → Bool} : ∀ n, (∀ i, i < n → p i = q i) → mkS p n = mkS q n
  | 0, _ => rfl
  | n + 1, h => by
    unfold mkS
    rw [mkS_congr n fun i hi => h i (by omega), h n (by omega)]
theorem lt16 {s n : Nat} (h : s < 2 ^ n) (hn : n ≤ 16) : s < 65536 := Nat.lt_of_lt_of_le h (Nat.pow_le_pow_right (by decide) hn)
/-- what is in s and not in t -/
def anN (s t : Nat) : Nat := mkS (fun i => s.testBit i && !t.testBit i) 16
theorem anN_bit (s t i : Nat) (hs : s < 65536) : (anN s t).testBit i = (s.testBit i && !t.testBit i) := by
  unfold anN
  rw [mkS_bit]
  by_cases h : i < 16
  · simp [h]
  · rw [bit_ge (n := 16) hs (by omega)]; simp
theorem anN_lt (s t : Nat) : anN s t < 65536 := mkS_lt _ 16
theorem wrap16 {n : Nat} (h : n < 65536) : IntKind.u16.wrap (n : Int) = (n : Int) := by
  have hk : IntKind.u16.wrap (n : Int) = (n : Int) % 65536 := by simp [IntKind.wrap, IntKind.signed, IntKind.bits]
  rw [hk]; omega
theorem and16 {a b : Nat} (ha : a < 65536) (hb : b < 65536) : bits BinOp.and IntKind.u16 (a : Int) (b : Int) = ((a &&& b : Nat) : Int) :=
  (bits_nat .u16 16 (by decide) (fun n h0 h1 => by obtain ⟨m, rfl⟩ := Int.eq_ofNat_of_zero_le h0; exact wrap16 (by have : ((m : Int)) < 65536 := h1; omega)) a b ha hb).1
theorem or16 {a b : Nat} (ha : a < 65536) (hb : b < 65536) : bits BinOp.or IntKind.u16 (a : Int) (b : Int) = ((a ||| b : Nat) : Int) :=
  (bits_nat .u16 16 (by decide) (fun n h0 h1 => by obtain ⟨m, rfl⟩ := Int.eq_ofNat_of_zero_le h0; exact wrap16 (by have : ((m : Int)) < 65536 := h1; omega)) a b ha hb).2
theorem not16 {a b : Nat} (ha : a < 65536) (hb : b < 65536) : bits BinOp.andNot IntKind.u16 (a : Int) (b : Int) = ((anN a b : Nat) : Int) := by
  show IntKind.u16.wrap (((BitVec.ofInt 16 (a : Int) &&& ~~~ BitVec.ofInt 16 (b : Int)).toNat : Nat) : Int) = _
  have h1 : (BitVec.ofInt 16 (a : Int) &&& ~~~ BitVec.ofInt 16 (b : Int)).toNat = anN a b := by
    refine Nat.eq_of_testBit_eq fun i => ?_
    rw [anN_bit a b i ha, BitVec.testBit_toNat, BitVec.getLsbD_and, BitVec.getLsbD_not, BitVec.ofInt_natCast, BitVec.ofInt_natCast, ← BitVec.testBit_toNat, ← BitVec.testBit_toNat, BitVec.toNat_ofNat, BitVec.toNat_ofNat, Nat.mod_eq_of_lt ha, Nat.mod_eq_of_lt hb]
    by_cases hi : i < 16
    · simp [hi]
    · rw [bit_ge (n := 16) ha (by omega)]; simp
  rw [h1, wrap16 (anN_lt _ _)]
/-- the numbers of a set, in order -/
def elS (s : Nat) : List Nat := (List.range 16).filter s.testBit
theorem elS_mem {s i : Nat} (hs : s < 65536) : i ∈ elS s ↔ s.testBit i = true := by
  unfold elS
  rw [List.mem_filter, List.mem_range]
  constructor
  · exact fun h => h.2
  · intro h
    refine ⟨?_, h⟩
    rcases Nat.lt_or_ge i 16 with h2 | h2
    · exact h2
    · rw [bit_ge (n := 16) hs h2] at h; cases h
/-- the set of a list -/
def seL (l : List Int) : Nat := mkS (fun i => l.contains (i : Int)) 16
theorem seL_bit (l : List Int) (i : Nat) (hi : i < 16) : (seL l).testBit i = l.contains (i : Int) := by
  unfold seL
  rw [mkS_bit]
  simp [hi]
theorem seL_lt (l : List Int) : seL l < 65536 := mkS_lt _ 16
theorem eq_zero_iff {s : Nat} : s = 0 ↔ ∀ i, s.testBit i = false := by
  constructor
  · intro h i; rw [h]; exact Nat.zero_testBit i
  · intro h
    refine Nat.eq_of_testBit_eq fun i => ?_
    rw [h i, Nat.zero_testBit]
end Go.Proofs.YtagjeeimglecnaaDoor
/- Rite, plain: what a rite is, which deeds break which rule, what follows from a course (no program in sight). -/
namespace Go.Proofs.YtagjeeimglecnaaDoor
open Go Go.RowKit
set_option maxRecDepth 100000
/-- an act -/
structure Rac where
  nm : Wd
  nd : List Int
  ins : List Int
  at_ : Int
  fr : Int
  to_ : Int
  ex : Bool
/-- a rite -/
structure Rit where
  as_ : List Rac
  last : Int
  toil : Int
def ra0 : Rac := ⟨noW, [], [], 0, 0, 0, false⟩
def Rit.ac (r : Rit) (i : Nat) : Rac := r.as_.getD i ra0
def Rit.n (r : Rit) : Nat := r.as_.length
/-- strictly ascending numbers of other acts, behind one -/
def isLF (act acts : Int) : Int → List Int → Bool
  | _, [] => true
  | last, x :: l => if x ≤ last ∨ acts ≤ x ∨ x = act then false else isLF act acts x l
/-- whether an act is as it must be, for itself -/
def acB (r : Rit) (i : Nat) : Bool :=
  ((((((wordB (r.ac i).nm && (List.range i).all fun k => decide ((r.ac k).nm ≠ (r.ac i).nm)) && isLF i r.n (-1) (r.ac i).nd) && isLF i r.n (-1) (r.ac i).ins) && decide (-1 ≤ (r.ac i).at_ ∧ (r.ac i).at_ ≤ (r.n : Int) - 1)) && decide ((r.ac i).at_ ≠ (i : Int))) && decide (0 ≤ (r.ac i).fr ∧ (r.ac i).fr ≤ (r.ac i).to_ ∧ (r.ac i).to_ ≤ r.last))
/-- a substitute, an atonement -/
def subB (r : Rit) (k : Nat) : Bool := (List.range r.n).any fun i => (r.ac i).ins.contains (k : Int)
def atoB (r : Rit) (k : Nat) : Bool := (List.range r.n).any fun i => decide ((r.ac i).at_ = (k : Int))
def kiB (r : Rit) (i : Nat) : Bool := !(((subB r i || atoB r i) && !(r.ac i).ex) || (subB r i && atoB r i))
/-- whether numbers of a rite are as they must be -/
def szB (r : Rit) : Bool := decide (1 ≤ r.n ∧ r.n ≤ 10) && decide (0 ≤ r.last ∧ r.last ≤ 30) && decide (1 ≤ r.toil ∧ r.toil ≤ 4)
/-- whether a rite is valid -/
def riB (r : Rit) : Bool := (szB r && (List.range r.n).all (acB r)) && (List.range r.n).all (kiB r)
-- sets
def waS (r : Rit) (i : Nat) : Nat := mkS (fun k => decide (k = i) || (r.ac i).ins.contains (k : Int) || decide ((r.ac i).at_ = (k : Int))) 16
def reS (r : Rit) (k : Nat) : Nat := mkS (fun i => (r.ac i).ins.contains (k : Int)) r.n
def atS (r : Rit) (k : Nat) : Nat := mkS (fun i => decide ((r.ac i).at_ = (k : Int))) r.n
def muS (r : Rit) : Nat := mkS (fun i => !(r.ac i).ex) r.n
-- what is settled
def seB (r : Rit) (d : Nat) (i : Nat) : Bool := d.testBit i || (decide (0 ≤ (r.ac i).at_) && d.testBit (r.ac i).at_.toNat) || (r.ac i).ins.any fun x => d.testBit x.toNat
def seS (r : Rit) (d : Nat) : Nat := mkS (seB r d) r.n
def ouS (r : Rit) (day : Int) : Nat := mkS (fun i => decide ((r.ac i).to_ < day)) r.n
def foB (r : Rit) (d : Nat) (day : Int) (i : Nat) : Bool := !(r.ac i).ex && decide ((r.ac i).to_ < day) && !seB r d i
def foS (r : Rit) (d : Nat) (day : Int) : Nat := mkS (foB r d day) r.n
def neB (r : Rit) (d : Nat) (i : Nat) : Bool := (r.ac i).nd.all fun x => seB r d x.toNat
def usB (r : Rit) (d : Nat) (day : Int) (i : Nat) : Bool := (List.range r.n).any fun k => ((r.ac k).ins.contains (i : Int) && !seB r d k) || (decide ((r.ac k).at_ = (i : Int)) && foB r d day k)
/-- the first of the rules 2 to 6 that a deed breaks -/
def brF (r : Rit) (d : Nat) (day deeds act : Int) : Int :=
  if act < 0 ∨ (r.n : Int) ≤ act then 2
  else if d.testBit act.toNat || (!(r.ac act.toNat).ex && seB r d act.toNat) then 2
  else if day < (r.ac act.toNat).fr ∨ (r.ac act.toNat).to_ < day then 3
  else if !neB r d act.toNat then 4
  else if (r.ac act.toNat).ex && !usB r d day act.toNat then 5
  else if r.toil ≤ deeds then 6 else 0
/-- how far a course is -/
structure Mom where
  d : Nat
  day : Int
  de : Int
deriving DecidableEq
def m0 : Mom := ⟨0, 0, 0⟩
def Mom.on (m : Mom) (day : Int) : Mom := if day = m.day then m else ⟨m.d, day, 0⟩
def Mom.wi (m : Mom) (act : Nat) : Mom := ⟨m.d ||| 2 ^ act, m.day, m.de + 1⟩
/-- what follows from a course: the moment, the deed and the rule that it breaks -/
def folF (r : Rit) : Mom → List (Int × Int) → Nat → Mom × Int × Int
  | m, [], _ => (m, -1, 0)
  | m, x :: l, i =>
    if x.1 < m.day ∨ r.last < x.1 then (m, i, 1)
    else if brF r (m.on x.1).d (m.on x.1).day (m.on x.1).de x.2 ≠ 0 then (m.on x.1, i, brF r (m.on x.1).d (m.on x.1).day (m.on x.1).de x.2)
    else folF r ((m.on x.1).wi x.2.toNat) l (i + 1)
/-- whether all acts that must be are settled -/
def coB (r : Rit) (d : Nat) : Bool := (List.range r.n).all fun i => (r.ac i).ex || seB r d i
/-- the acts that can be done next -/
def neS (r : Rit) (m : Mom) : Nat := mkS (fun i => decide (brF r m.d m.day m.de i = 0)) r.n
-- the fewest deeds, by fuel; 11 if none do
def fwF (r : Rit) : Nat → Mom → Nat
  | 0, _ => 11
  | k + 1, m => if coB r m.d then 0 else (elS (neS r m)).foldl (fun b a => min b (1 + fwF r k (m.wi a))) (if m.day < r.last then fwF r k (m.on (m.day + 1)) else 11)
/-- how many acts are not done -/
def unN (r : Rit) (d : Nat) : Nat := ((List.range r.n).filter fun i => !d.testBit i).length
/-- what is left at a moment -/
def meN (r : Rit) (m : Mom) : Nat := (r.last - m.day).toNat + unN r m.d
def fwN (r : Rit) (m : Mom) : Nat := fwF r (meN r m + 1) m
theorem un_wi {r : Rit} {d i : Nat} (hi : i < r.n) (hd : d.testBit i = false) : unN r (d ||| 2 ^ i) + 1 = unN r d := by
  unfold unN
  have key : ∀ n, (((List.range n).filter fun k => !(d ||| 2 ^ i).testBit k).length + if i < n then 1 else 0) = ((List.range n).filter fun k => !d.testBit k).length := by
    intro n
    induction n with
    | zero => simp
    | succ n ih =>
      rw [List.range_succ, List.filter_append, List.filter_append, List.length_append, List.length_append, ← ih]
      have e : (d ||| 2 ^ i).testBit n = (d.testBit n || decide (i = n)) := by rw [Nat.testBit_or, Nat.testBit_two_pow]
      by_cases h : i = n
      · subst h
        simp [e, hd]
      · have e2 : (d ||| 2 ^ i).testBit n = d.testBit n := by rw [e]; simp [h]
        simp only [List.filter_cons, List.filter_nil, e2]
        by_cases h2 : i < n
        · rw [if_pos h2, if_pos (show i < n + 1 by omega)]; omega
        · rw [if_neg h2, if_neg (show ¬ i < n + 1 by omega)]; omega
  have := key r.n
  rw [if_pos hi] at this
  exact this
theorem br_undone {r : Rit} {d : Nat} {day de : Int} {i : Nat} (h : brF r d day de i = 0) : i < r.n ∧ d.testBit i = false := by
  unfold brF at h
  rw [Int.toNat_natCast] at h
  split at h
  · cases h
  · rename_i h1
    split at h
    · cases h
    · rename_i h2
      refine ⟨by omega, ?_⟩
      rcases hb : d.testBit i with _ | _
      · rfl
      · rw [hb] at h2; simp at h2
theorem neS_mem {r : Rit} {m : Mom} (hn : r.n ≤ 16) {i : Nat} : i ∈ elS (neS r m) ↔ brF r m.d m.day m.de i = 0 := by
  unfold neS
  rw [elS_mem (lt16 (mkS_lt _ _) hn)]
  rw [mkS_bit, Bool.and_eq_true, decide_eq_true_iff, decide_eq_true_iff]
  exact ⟨fun h => h.2, fun h => ⟨(br_undone h).1, h⟩⟩
theorem me_wi {r : Rit} {m : Mom} {i : Nat} (h : brF r m.d m.day m.de i = 0) : meN r (m.wi i) + 1 = meN r m := by
  obtain ⟨h1, h2⟩ := br_undone h
  have := un_wi h1 h2
  unfold meN
  show (r.last - m.day).toNat + unN r (m.d ||| 2 ^ i) + 1 = _
  omega
theorem me_on {r : Rit} {m : Mom} (h : m.day < r.last) : meN r (m.on (m.day + 1)) + 1 = meN r m := by
  unfold Mom.on
  rw [if_neg (by omega)]
  unfold meN
  dsimp only
  omega
theorem foldl_congr' {α β : Type} {f g : β → α → β} : ∀ (l : List α) (b : β), (∀ x ∈ l, ∀ b, f b x = g b x) → l.foldl f b = l.foldl g b
  | [], _, _ => rfl
  | x :: l, b, h => by
    show l.foldl f (f b x) = l.foldl g (g b x)
    rw [h x (by simp) b]
    exact foldl_congr' l _ fun y hy b => h y (by simp [hy]) b
theorem fwF_more {r : Rit} (hn : r.n ≤ 16) : ∀ (k : Nat) (m : Mom) (j : Nat), meN r m < k → k ≤ j → fwF r j m = fwF r k m
  | 0, _, _, h, _ => absurd h (by omega)
  | k + 1, m, j, h, hj => by
    obtain ⟨j, rfl⟩ : ∃ i, j = i + 1 := ⟨j - 1, by omega⟩
    unfold fwF
    by_cases hc : coB r m.d = true
    · rw [if_pos hc, if_pos hc]
    · rw [if_neg hc, if_neg hc]
      have e1 : (if m.day < r.last then fwF r j (m.on (m.day + 1)) else 11) = (if m.day < r.last then fwF r k (m.on (m.day + 1)) else 11) := by
        by_cases hd : m.day < r.last
        · rw [if_pos hd, if_pos hd, fwF_more hn k _ j (by have := me_on hd; omega) (by omega)]
        · rw [if_neg hd, if_neg hd]
      rw [e1]
      exact foldl_congr' _ _ fun x hx b => by
        rw [fwF_more hn k _ j (by have := me_wi ((neS_mem hn).1 hx); omega) (by omega)]
/-- the law of the fewest deeds -/
theorem fwN_eq {r : Rit} (hn : r.n ≤ 16) (m : Mom) :
    fwN r m = if coB r m.d then 0 else (elS (neS r m)).foldl (fun b a => min b (1 + fwN r (m.wi a))) (if m.day < r.last then fwN r (m.on (m.day + 1)) else 11) := by
  show fwF r (meN r m + 1) m = _
  unfold fwF
  by_cases hc : coB r m.d = true
  · rw [if_pos hc, if_pos hc]
  · rw [if_neg hc, if_neg hc]
    have e1 : (if m.day < r.last then fwF r (meN r m) (m.on (m.day + 1)) else 11) = (if m.day < r.last then fwN r (m.on (m.day + 1)) else 11) := by
      by_cases hd : m.day < r.last
      · rw [if_pos hd, if_pos hd]
        unfold fwN
        rw [me_on hd]
      · rw [if_neg hd, if_neg hd]
    rw [e1]
    exact foldl_congr' _ _ fun x hx b => by
      unfold fwN
      rw [me_wi ((neS_mem hn).1 hx)]
theorem foldl_min_le {α : Type} (f : α → Nat) : ∀ (l : List α) (b : Nat), l.foldl (fun b a => min b (f a)) b ≤ b
  | [], _ => Nat.le_refl _
  | x :: l, b => Nat.le_trans (foldl_min_le f l (min b (f x))) (Nat.min_le_left _ _)
theorem fwF_le (r : Rit) : ∀ (k : Nat) (m : Mom), fwF r k m ≤ 11
  | 0, _ => Nat.le_refl _
  | k + 1, m => by
    unfold fwF
    split
    · omega
    · refine Nat.le_trans (foldl_min_le _ _ _) ?_
      split
      · exact fwF_le r k _
      · omega
theorem fwN_le (r : Rit) (m : Mom) : fwN r m ≤ 11 := fwF_le r _ m
end Go.Proofs.YtagjeeimglecnaaDoor
/- Rite, plain: acts that can never be settled; the list of the fewest deeds. -/
namespace Go.Proofs.YtagjeeimglecnaaDoor
open Go Go.RowKit
set_option maxRecDepth 100000
-- hopeless
/-- whether a way of an act may still be gone, if the acts of X are lost -/
def canB (r : Rit) (day : Int) (X : Nat) (i : Nat) : Bool := (List.range r.n).any fun k => (waS r i).testBit k && (!decide ((r.ac k).to_ < day) && (r.ac k).nd.all fun x => !X.testBit x.toNat)
def SubS (X Y : Nat) : Prop := ∀ i, X.testBit i = true → Y.testBit i = true
/-- a set of acts of which none has a way -/
def StaS (r : Rit) (day : Int) (X : Nat) : Prop := ∀ i, X.testBit i = true → canB r day X i = false
/-- the greatest of these among the acts that are not settled -/
structure HoS (r : Rit) (d : Nat) (day : Int) (X : Nat) : Prop where
  sub : SubS X (anN (2 ^ r.n - 1) (seS r d))
  sta : StaS r day X
  top : ∀ Y, SubS Y (anN (2 ^ r.n - 1) (seS r d)) → StaS r day Y → SubS Y X
theorem subS_anti {X Y : Nat} (h : SubS X Y) (k : SubS Y X) : X = Y := by
  refine Nat.eq_of_testBit_eq fun i => ?_
  rw [Bool.eq_iff_iff]
  exact ⟨h i, k i⟩
theorem HoS.uniq {r : Rit} {d : Nat} {day : Int} {X Y : Nat} (h : HoS r d day X) (k : HoS r d day Y) : X = Y := subS_anti (k.top X h.sub h.sta) (h.top Y k.sub k.sta)
theorem can_mono {r : Rit} {day : Int} {X Y : Nat} (h : SubS Y X) {i : Nat} (hc : canB r day X i = true) : canB r day Y i = true := by
  unfold canB at hc ⊢
  obtain ⟨k, hk, h2⟩ := List.any_eq_true.1 hc
  rw [Bool.and_eq_true, Bool.and_eq_true] at h2
  refine List.any_eq_true.2 ⟨k, hk, ?_⟩
  rw [Bool.and_eq_true, Bool.and_eq_true]
  refine ⟨h2.1, h2.2.1, List.all_eq_true.2 fun x hx => ?_⟩
  have h3 := List.all_eq_true.1 h2.2.2 x hx
  rcases hb : Y.testBit x.toNat with _ | _
  · rfl
  · rw [h _ hb] at h3; cases h3
theorem subS_le {X Y : Nat} (h : SubS X Y) : X ≤ Y := by
  have e : X &&& Y = X := by
    refine Nat.eq_of_testBit_eq fun i => ?_
    rw [Nat.testBit_and]
    rcases hb : X.testBit i with _ | _
    · rfl
    · rw [h i hb]; rfl
  rw [← e]
  exact Nat.and_le_right
/-- one round: those that have a way are taken out -/
def hoS (r : Rit) (day : Int) (X : Nat) : Nat := mkS (fun i => X.testBit i && !canB r day X i) 16
theorem hoS_bit {r : Rit} {day : Int} {X : Nat} (hX : X < 65536) (i : Nat) : (hoS r day X).testBit i = (X.testBit i && !canB r day X i) := by
  unfold hoS
  rw [mkS_bit]
  by_cases h : i < 16
  · simp [h]
  · rw [bit_ge (n := 16) hX (by omega)]; simp
theorem hoS_sub {r : Rit} {day : Int} {X : Nat} (hX : X < 65536) : SubS (hoS r day X) X := fun i h => by
  rw [hoS_bit hX, Bool.and_eq_true] at h
  exact h.1
theorem hoS_top {r : Rit} {day : Int} {X Y : Nat} (hX : X < 65536) (h : SubS Y X) (hs : StaS r day Y) : SubS Y (hoS r day X) := fun i hi => by
  rw [hoS_bit hX, h i hi]
  rcases hc : canB r day X i with _ | _
  · rfl
  · have := can_mono h hc
    rw [hs i hi] at this; cases this
theorem hoS_fix {r : Rit} {day : Int} {X : Nat} (hX : X < 65536) (h : hoS r day X = X) : StaS r day X := fun i hi => by
  have h2 := hoS_bit (r := r) (day := day) hX i
  rw [h, hi, Bool.true_and] at h2
  rcases hc : canB r day X i with _ | _
  · rfl
  · rw [hc] at h2; cases h2
theorem hoS_less {r : Rit} {day : Int} {X : Nat} (hX : X < 65536) (h : hoS r day X ≠ X) : hoS r day X < X := by
  have := subS_le (hoS_sub (r := r) (day := day) hX)
  omega
-- repair
theorem foldl_min_cases {α : Type} (f : α → Nat) : ∀ (l : List α) (b : Nat), l.foldl (fun b a => min b (f a)) b = b ∨ ∃ x ∈ l, l.foldl (fun b a => min b (f a)) b = f x
  | [], _ => .inl rfl
  | x :: l, b => by
    show l.foldl (fun b a => min b (f a)) (min b (f x)) = b ∨ _
    rcases foldl_min_cases f l (min b (f x)) with h | ⟨y, hy, h⟩
    · rw [h]
      rcases Nat.le_total b (f x) with h2 | h2
      · exact .inl (Nat.min_eq_left h2)
      · refine .inr ⟨x, by simp, ?_⟩
        show l.foldl (fun b a => min b (f a)) (min b (f x)) = f x
        rw [h]
        exact Nat.min_eq_right h2
    · exact .inr ⟨y, by simp [hy], h⟩
theorem foldl_min_mem {α : Type} (f : α → Nat) : ∀ (l : List α) (b : Nat) (x : α), x ∈ l → l.foldl (fun b a => min b (f a)) b ≤ f x
  | x :: l, b, y, h => by
    show l.foldl (fun b a => min b (f a)) (min b (f x)) ≤ f y
    rcases List.mem_cons.1 h with rfl | h
    · exact Nat.le_trans (foldl_min_le f l _) (Nat.min_le_right _ _)
    · exact foldl_min_mem f l _ y h
theorem fw_zero {r : Rit} (hn : r.n ≤ 16) (m : Mom) : fwN r m = 0 ↔ coB r m.d = true := by
  rw [fwN_eq hn]
  by_cases hc : coB r m.d = true
  · rw [if_pos hc]; exact ⟨fun _ => hc, fun _ => rfl⟩
  · rw [if_neg hc]
    refine ⟨fun h => ?_, fun h => absurd h hc⟩
    exfalso
    rcases foldl_min_cases (fun a => 1 + fwN r (m.wi a)) (elS (neS r m)) (if m.day < r.last then fwN r (m.on (m.day + 1)) else 11) with h2 | ⟨x, -, h2⟩
    · rw [h2] at h
      by_cases hd : m.day < r.last
      · rw [if_pos hd] at h
        have h3 : ∀ (k : Nat) (m : Mom), meN r m ≤ k → coB r m.d ≠ true → fwN r m ≠ 0 := by
          intro k
          induction k with
          | zero =>
            intro m hm hc h
            rw [fwN_eq hn, if_neg hc] at h
            rcases foldl_min_cases (fun a => 1 + fwN r (m.wi a)) (elS (neS r m)) (if m.day < r.last then fwN r (m.on (m.day + 1)) else 11) with h2 | ⟨x, -, h2⟩
            · rw [h2] at h
              by_cases hd : m.day < r.last
              · have := me_on hd; omega
              · rw [if_neg hd] at h; cases h
            · rw [h2] at h; omega
          | succ k ih =>
            intro m hm hc h
            rw [fwN_eq hn, if_neg hc] at h
            rcases foldl_min_cases (fun a => 1 + fwN r (m.wi a)) (elS (neS r m)) (if m.day < r.last then fwN r (m.on (m.day + 1)) else 11) with h2 | ⟨x, -, h2⟩
            · rw [h2] at h
              by_cases hd : m.day < r.last
              · rw [if_pos hd] at h
                refine ih _ (by have := me_on hd; omega) ?_ h
                unfold Mom.on
                rw [if_neg (by omega)]
                exact hc
              · rw [if_neg hd] at h; cases h
            · rw [h2] at h; omega
        refine h3 _ (m.on (m.day + 1)) (Nat.le_refl _) ?_ h
        unfold Mom.on
        rw [if_neg (by omega)]
        exact hc
      · rw [if_neg hd] at h; cases h
    · rw [h2] at h; omega
/-- the next deed of the fewest, or the next day -/
theorem fw_step {r : Rit} (hn : r.n ≤ 16) {m : Mom} {v : Nat} (h : fwN r m = v) (h0 : 0 < v) (h1 : v < 11) :
    (∃ a ∈ elS (neS r m), fwN r (m.wi a) = v - 1) ∨ (m.day < r.last ∧ fwN r (m.on (m.day + 1)) = v) := by
  rw [fwN_eq hn] at h
  by_cases hc : coB r m.d = true
  · rw [if_pos hc] at h; omega
  · rw [if_neg hc] at h
    rcases foldl_min_cases (fun a => 1 + fwN r (m.wi a)) (elS (neS r m)) (if m.day < r.last then fwN r (m.on (m.day + 1)) else 11) with h2 | ⟨x, hx, h2⟩
    · rw [h2] at h
      by_cases hd : m.day < r.last
      · rw [if_pos hd] at h; exact .inr ⟨hd, h⟩
      · rw [if_neg hd] at h; omega
    · rw [h2] at h
      exact .inl ⟨x, hx, by omega⟩
/-- the list of the fewest deeds, by fuel -/
def rpF (r : Rit) : Nat → Mom → Nat → List (Int × Int)
  | 0, _, _ => []
  | k + 1, m, v => if v = 0 then [] else match (elS (neS r m)).find? fun a => decide (fwN r (m.wi a) = v - 1) with
    | none => rpF r k (m.on (m.day + 1)) v
    | some a => (m.day, (a : Int)) :: rpF r k (m.wi a) (v - 1)
def rpL (r : Rit) (m : Mom) (v : Nat) : List (Int × Int) := rpF r (meN r m + 1) m v
theorem rp_zero (r : Rit) (m : Mom) : rpL r m 0 = [] := rfl
theorem rp_some {r : Rit} (hn : r.n ≤ 16) {m : Mom} {v a : Nat} (h0 : 0 < v) (hf : (elS (neS r m)).find? (fun a => decide (fwN r (m.wi a) = v - 1)) = some a) :
    rpL r m v = (m.day, (a : Int)) :: rpL r (m.wi a) (v - 1) := by
  have hm : a ∈ elS (neS r m) := List.mem_of_find?_eq_some hf
  unfold rpL
  rw [me_wi ((neS_mem hn).1 hm)]
  show (if v = 0 then _ else _) = _
  rw [if_neg (by omega), hf]
theorem rp_none {r : Rit} {m : Mom} {v : Nat} (h0 : 0 < v) (hd : m.day < r.last) (hf : (elS (neS r m)).find? (fun a => decide (fwN r (m.wi a) = v - 1)) = none) :
    rpL r m v = rpL r (m.on (m.day + 1)) v := by
  unfold rpL
  rw [me_on hd]
  show (if v = 0 then _ else _) = _
  rw [if_neg (by omega), hf]
/-- finite numbers are no more than the acts that are not done -/
theorem fw_un {r : Rit} (hn : r.n ≤ 16) : ∀ (k : Nat) (m : Mom), meN r m ≤ k → fwN r m < 11 → fwN r m ≤ unN r m.d := by
  intro k
  induction k with
  | zero =>
    intro m hm h
    rcases Nat.eq_zero_or_pos (fwN r m) with h0 | h0
    · omega
    · rcases fw_step hn rfl h0 h with ⟨a, ha, -⟩ | ⟨hd, -⟩
      · have := me_wi ((neS_mem hn).1 ha); omega
      · have := me_on hd; omega
  | succ k ih =>
    intro m hm h
    rcases Nat.eq_zero_or_pos (fwN r m) with h0 | h0
    · omega
    · rcases fw_step hn rfl h0 h with ⟨a, ha, h2⟩ | ⟨hd, h2⟩
      · have h3 := me_wi ((neS_mem hn).1 ha)
        have h4 := ih (m.wi a) (by omega) (by omega)
        have h5 := br_undone ((neS_mem hn).1 ha)
        have h6 := un_wi h5.1 h5.2
        have h7 : unN r (m.wi a).d = unN r (m.d ||| 2 ^ a) := rfl
        omega
      · have h3 := me_on hd
        have h4 := ih (m.on (m.day + 1)) (by omega) (by omega)
        have h5 : (m.on (m.day + 1)).d = m.d := by unfold Mom.on; split <;> rfl
        rw [h5] at h4
        omega
theorem un_le (r : Rit) (d : Nat) : unN r d ≤ r.n := by
  unfold unN
  exact Nat.le_trans (List.length_filter_le _ _) (by simp)
theorem rp_len {r : Rit} (hn : r.n ≤ 16) : ∀ (k : Nat) (m : Mom) (v : Nat), meN r m ≤ k → fwN r m = v → v < 11 → (rpL r m v).length = v := by
  intro k
  induction k with
  | zero =>
    intro m v hm h h1
    rcases Nat.eq_zero_or_pos v with h0 | h0
    · subst h0; rfl
    · rcases fw_step hn h h0 h1 with ⟨a, ha, -⟩ | ⟨hd, -⟩
      · have := me_wi ((neS_mem hn).1 ha); omega
      · have := me_on hd; omega
  | succ k ih =>
    intro m v hm h h1
    rcases Nat.eq_zero_or_pos v with h0 | h0
    · subst h0; rfl
    · cases hf : (elS (neS r m)).find? (fun a => decide (fwN r (m.wi a) = v - 1)) with
      | some a =>
        have h2 : fwN r (m.wi a) = v - 1 := of_decide_eq_true (List.find?_some (p := fun a => decide (fwN r (m.wi a) = v - 1)) hf)
        have h3 := me_wi ((neS_mem hn).1 (List.mem_of_find?_eq_some hf))
        rw [rp_some hn h0 hf, List.length_cons, ih (m.wi a) (v - 1) (by omega) h2 (by omega)]
        omega
      | none =>
        rcases fw_step hn h h0 h1 with ⟨a, ha, h2⟩ | ⟨hd, h2⟩
        · have h3 := List.find?_eq_none.1 hf a ha
          simp [h2] at h3
        · rw [rp_none h0 hd hf]
          exact ih _ v (by have := me_on hd; omega) h2 h1
end Go.Proofs.YtagjeeimglecnaaDoor
/- Rite, plain: what is true of a valid rite; sets of a valid rite, bit by bit. -/
namespace Go.Proofs.YtagjeeimglecnaaDoor
open Go Go.RowKit
set_option maxRecDepth 100000
theorem isLF_iff (act acts : Int) : ∀ (l : List Int) (p : Int), isLF act acts p l = true ↔ ∀ i, i < l.length → (if i = 0 then p else l.getD (i - 1) 0) < l.getD i 0 ∧ l.getD i 0 < acts ∧ l.getD i 0 ≠ act
  | [], p => by simp [isLF]
  | x :: l, p => by
    unfold isLF
    by_cases h : x ≤ p ∨ acts ≤ x ∨ x = act
    · rw [if_pos h]
      refine ⟨fun h => (by cases h), fun h2 => ?_⟩
      have h3 := h2 0 (by simp)
      rw [if_pos rfl] at h3
      have e : (x :: l).getD 0 0 = x := rfl
      rw [e] at h3
      omega
    · rw [if_neg h, isLF_iff act acts l x]
      constructor
      · intro h2 i hi
        cases i with
        | zero => rw [if_pos rfl]; show p < x ∧ x < acts ∧ x ≠ act; omega
        | succ i =>
          have h3 := h2 i (by simpa using hi)
          rw [if_neg (by omega)]
          show (x :: l).getD i 0 < l.getD i 0 ∧ _
          cases i with
          | zero => rw [if_pos rfl] at h3; exact h3
          | succ i => rw [if_neg (by omega)] at h3; exact h3
      · intro h2 i hi
        have h3 := h2 (i + 1) (by simpa using hi)
        rw [if_neg (by omega)] at h3
        have h4 : (x :: l).getD i 0 < l.getD i 0 ∧ l.getD i 0 < acts ∧ l.getD i 0 ≠ act := h3
        cases i with
        | zero => rw [if_pos rfl]; exact h4
        | succ i => rw [if_neg (by omega)]; exact h4
theorem isLF_range {act acts : Int} : ∀ {l : List Int} {p : Int}, isLF act acts p l = true → ∀ x ∈ l, p < x ∧ x < acts ∧ x ≠ act
  | [], _, _, x, hx => by cases hx
  | y :: l, p, h, x, hx => by
    unfold isLF at h
    split at h
    · cases h
    · rename_i h1
      rcases List.mem_cons.1 hx with rfl | hx
      · omega
      · have := isLF_range h x hx
        omega
/-- what is true of a valid rite -/
structure RiOk (r : Rit) : Prop where
  n1 : 1 ≤ r.n
  n10 : r.n ≤ 10
  l0 : 0 ≤ r.last
  l30 : r.last ≤ 30
  t1 : 1 ≤ r.toil
  t4 : r.toil ≤ 4
  ac : ∀ i, i < r.n → acB r i = true
  ki : ∀ i, i < r.n → kiB r i = true
theorem riB_ok {r : Rit} (h : riB r = true) : RiOk r := by
  unfold riB szB at h
  simp only [Bool.and_eq_true, decide_eq_true_eq] at h
  obtain ⟨⟨⟨⟨h1, h2⟩, h3⟩, h4⟩, h5⟩ := h
  exact ⟨h1.1, h1.2, h2.1, h2.2, h3.1, h3.2, fun i hi => List.all_eq_true.1 h4 i (List.mem_range.2 hi), fun i hi => List.all_eq_true.1 h5 i (List.mem_range.2 hi)⟩
/-- what is true of an act of a valid rite -/
structure AcOk (r : Rit) (i : Nat) : Prop where
  nm : wordB (r.ac i).nm = true
  nd : ∀ x ∈ (r.ac i).nd, 0 ≤ x ∧ x < r.n ∧ x ≠ (i : Int)
  ins : ∀ x ∈ (r.ac i).ins, 0 ≤ x ∧ x < r.n ∧ x ≠ (i : Int)
  at0 : -1 ≤ (r.ac i).at_
  at1 : (r.ac i).at_ ≤ (r.n : Int) - 1
  ne : (r.ac i).at_ ≠ (i : Int)
  fr : 0 ≤ (r.ac i).fr
  ft : (r.ac i).fr ≤ (r.ac i).to_
  tl : (r.ac i).to_ ≤ r.last
  nms : ∀ k, k < i → (r.ac k).nm ≠ (r.ac i).nm
theorem acB_ok {r : Rit} {i : Nat} (h : acB r i = true) : AcOk r i := by
  unfold acB at h
  simp only [Bool.and_eq_true, decide_eq_true_eq] at h
  obtain ⟨⟨⟨⟨⟨⟨h1, h2⟩, h3⟩, h4⟩, h5⟩, h6⟩, h7⟩ := h
  refine ⟨h1, fun x hx => ?_, fun x hx => ?_, h5.1, h5.2, h6, h7.1, h7.2.1, h7.2.2, fun k hk => ?_⟩
  · have := isLF_range h3 x hx; omega
  · have := isLF_range h4 x hx; omega
  · have := List.all_eq_true.1 h2 k (List.mem_range.2 hk)
    exact of_decide_eq_true this
theorem RiOk.at_ {r : Rit} (h : RiOk r) {i : Nat} (hi : i < r.n) : AcOk r i := acB_ok (h.ac i hi)
theorem mem_at {l : List Int} {x : Int} (h : x ∈ l) : l.contains x = true := List.contains_iff_mem.2 h
/-- ways that are done: what settles an act -/
theorem wa_se {r : Rit} (hr : RiOk r) {i : Nat} (hi : i < r.n) (d : Nat) (hd : d < 65536) : (waS r i &&& d ≠ 0) ↔ seB r d i = true := by
  have ha := hr.at_ hi
  have h10 := hr.n10
  rw [← Bool.not_eq_false, ne_eq]
  refine not_congr ?_
  rw [eq_zero_iff]
  have hb : ∀ k, (waS r i &&& d).testBit k = ((decide (k = i) || (r.ac i).ins.contains (k : Int) || decide ((r.ac i).at_ = (k : Int))) && d.testBit k) := fun k => by
    rw [Nat.testBit_and]
    unfold waS
    rw [mkS_bit]
    by_cases hk : k < 16
    · simp [hk]
    · rw [bit_ge (n := 16) hd (by omega)]; simp
  constructor
  · intro h
    unfold seB
    rw [Bool.or_eq_false_iff, Bool.or_eq_false_iff]
    refine ⟨⟨?_, ?_⟩, ?_⟩
    · have h1 := h i
      rw [hb] at h1
      simpa using h1
    · rcases Classical.em (0 ≤ (r.ac i).at_) with h0 | h0
      · have h1 := h (r.ac i).at_.toNat
        rw [hb, Int.toNat_of_nonneg h0] at h1
        rw [decide_eq_true h0, Bool.true_and]
        simpa using h1
      · rw [decide_eq_false h0]; rfl
    · rw [List.any_eq_false]
      intro x hx
      have h1 := h x.toNat
      rw [hb, Int.toNat_of_nonneg (ha.ins x hx).1, mem_at hx] at h1
      simpa using h1
  · intro h k
    unfold seB at h
    rw [Bool.or_eq_false_iff, Bool.or_eq_false_iff] at h
    obtain ⟨⟨h1, h2⟩, h3⟩ := h
    rw [hb]
    rcases hk : d.testBit k with _ | _
    · simp
    · rw [Bool.and_true, Bool.or_eq_false_iff, Bool.or_eq_false_iff]
      refine ⟨⟨?_, ?_⟩, ?_⟩
      · rw [decide_eq_false_iff_not]
        rintro rfl
        rw [hk] at h1; cases h1
      · rcases hc : (r.ac i).ins.contains (k : Int) with _ | _
        · rfl
        · have := List.any_eq_false.1 h3 (k : Int) (List.contains_iff_mem.1 hc)
          rw [Int.toNat_natCast, hk] at this
          exact absurd rfl this
      · rw [decide_eq_false_iff_not]
        intro e
        rw [e, Int.toNat_natCast, hk, decide_eq_true (by omega)] at h2
        cases h2
theorem anN_zero {s t : Nat} (hs : s < 65536) : anN s t = 0 ↔ ∀ i, s.testBit i = true → t.testBit i = true := by
  rw [eq_zero_iff]
  constructor
  · intro h i hi
    have h1 := h i
    rw [anN_bit _ _ _ hs, hi] at h1
    simpa using h1
  · intro h i
    rw [anN_bit _ _ _ hs]
    rcases hi : s.testBit i with _ | _
    · rfl
    · rw [h i hi]; rfl
theorem and_zero {s t : Nat} : s &&& t = 0 ↔ ∀ i, s.testBit i = true → t.testBit i = false := by
  rw [eq_zero_iff]
  constructor
  · intro h i hi
    have h1 := h i
    rw [Nat.testBit_and, hi] at h1
    simpa using h1
  · intro h i
    rw [Nat.testBit_and]
    rcases hi : s.testBit i with _ | _
    · rfl
    · rw [h i hi]; rfl
theorem seS_bit (r : Rit) (d i : Nat) : (seS r d).testBit i = (decide (i < r.n) && seB r d i) := mkS_bit _ _ _
theorem seS_lt {r : Rit} (hr : RiOk r) (d : Nat) : seS r d < 65536 := lt16 (mkS_lt _ _) (by have := hr.n10; omega)
/-- what an act needs, settled -/
theorem ne_iff {r : Rit} (hr : RiOk r) {i : Nat} (hi : i < r.n) (d : Nat) : anN (seL (r.ac i).nd) (seS r d) = 0 ↔ neB r d i = true := by
  have ha := hr.at_ hi
  have h10 := hr.n10
  rw [anN_zero (seL_lt _)]
  unfold neB
  rw [List.all_eq_true]
  constructor
  · intro h x hx
    have h0 := ha.nd x hx
    have h1 := h x.toNat (by rw [seL_bit _ _ (by omega), Int.toNat_of_nonneg h0.1, mem_at hx])
    rw [seS_bit, Bool.and_eq_true] at h1
    exact h1.2
  · intro h k hk
    have hk16 : k < 16 := by
      rcases Nat.lt_or_ge k 16 with h2 | h2
      · exact h2
      · rw [bit_ge (n := 16) (seL_lt _) h2] at hk; cases hk
    rw [seL_bit _ _ hk16] at hk
    have hm := List.contains_iff_mem.1 hk
    have h0 := ha.nd _ hm
    have h1 := h _ hm
    rw [Int.toNat_natCast] at h1
    rw [seS_bit, h1, decide_eq_true (by omega)]
    rfl
theorem reS_bit (r : Rit) (k i : Nat) : (reS r k).testBit i = (decide (i < r.n) && (r.ac i).ins.contains (k : Int)) := mkS_bit _ _ _
theorem atS_bit (r : Rit) (k i : Nat) : (atS r k).testBit i = (decide (i < r.n) && decide ((r.ac i).at_ = (k : Int))) := mkS_bit _ _ _
theorem foS_bit (r : Rit) (d : Nat) (day : Int) (i : Nat) : (foS r d day).testBit i = (decide (i < r.n) && foB r d day i) := mkS_bit _ _ _
/-- of what use an extra act is -/
theorem us_iff {r : Rit} (hr : RiOk r) (d : Nat) (day : Int) (i : Nat) : (anN (reS r i) (seS r d) = 0 ∧ atS r i &&& foS r d day = 0) ↔ usB r d day i = false := by
  have h10 := hr.n10
  rw [anN_zero (lt16 (show reS r i < 2 ^ r.n from mkS_lt _ _) (by omega)), and_zero]
  unfold usB
  rw [List.any_eq_false]
  constructor
  · rintro ⟨h1, h2⟩ k hk
    have hk := List.mem_range.1 hk
    rw [Bool.not_eq_true, Bool.or_eq_false_iff]
    constructor
    · rcases hc : (r.ac k).ins.contains (i : Int) with _ | _
      · rfl
      · have h3 := h1 k (by rw [reS_bit, hc, decide_eq_true hk]; rfl)
        rw [seS_bit, Bool.and_eq_true] at h3
        rw [h3.2]; rfl
    · rcases hc : decide ((r.ac k).at_ = (i : Int)) with _ | _
      · rfl
      · have h3 := h2 k (by rw [atS_bit, hc, decide_eq_true hk]; rfl)
        rw [foS_bit, decide_eq_true hk] at h3
        simpa using h3
  · intro h
    constructor
    · intro k hk
      rw [reS_bit, Bool.and_eq_true] at hk
      have h1 := of_decide_eq_true hk.1
      have h2 := h k (List.mem_range.2 h1)
      rw [Bool.not_eq_true, Bool.or_eq_false_iff, hk.2] at h2
      rw [seS_bit, hk.1]
      simpa using h2.1
    · intro k hk
      rw [atS_bit, Bool.and_eq_true] at hk
      have h1 := of_decide_eq_true hk.1
      have h2 := h k (List.mem_range.2 h1)
      rw [Bool.not_eq_true, Bool.or_eq_false_iff, hk.2] at h2
      rw [foS_bit, hk.1]
      simpa using h2.2
/-- what is forgotten, as the program counts it -/
theorem fo_eq {r : Rit} (hr : RiOk r) (d : Nat) (day : Int) : anN (muS r &&& ouS r day) (seS r d) = foS r d day := by
  have h10 := hr.n10
  have hm : muS r < 65536 := lt16 (mkS_lt _ _) (by omega)
  refine Nat.eq_of_testBit_eq fun i => ?_
  rw [anN_bit _ _ _ (Nat.lt_of_le_of_lt Nat.and_le_left hm), Nat.testBit_and, foS_bit, seS_bit]
  unfold muS ouS foB
  rw [mkS_bit, mkS_bit]
  by_cases hi : i < r.n
  · simp [hi]
  · simp [hi]
/-- what is complete, as the program counts it -/
theorem co_iff {r : Rit} (hr : RiOk r) (d : Nat) : anN (muS r) (seS r d) = 0 ↔ coB r d = true := by
  have h10 := hr.n10
  have hm : muS r < 65536 := lt16 (mkS_lt _ _) (by omega)
  rw [anN_zero hm]
  unfold coB
  rw [List.all_eq_true]
  constructor
  · intro h i hi
    have hi := List.mem_range.1 hi
    rcases he : (r.ac i).ex with _ | _
    · have h1 := h i (by unfold muS; rw [mkS_bit, he, decide_eq_true hi]; rfl)
      rw [seS_bit, Bool.and_eq_true] at h1
      rw [h1.2]; rfl
    · rfl
  · intro h i hi
    unfold muS at hi
    rw [mkS_bit, Bool.and_eq_true] at hi
    have h1 := h i (List.mem_range.2 (of_decide_eq_true hi.1))
    have h2 : (r.ac i).ex = false := by simpa using hi.2
    rw [h2, Bool.false_or] at h1
    rw [seS_bit, hi.1, h1]; rfl
/-- substitutes and atonements, as sets -/
theorem sub_iff {r : Rit} (k : Nat) : reS r k ≠ 0 ↔ subB r k = true := by
  rw [← Bool.not_eq_false, ne_eq]
  refine not_congr ?_
  rw [eq_zero_iff]
  unfold subB
  rw [List.any_eq_false]
  constructor
  · intro h i hi
    have h1 := h i
    rw [reS_bit, decide_eq_true (List.mem_range.1 hi)] at h1
    simpa using h1
  · intro h i
    rw [reS_bit]
    by_cases hi : i < r.n
    · have h1 := h i (List.mem_range.2 hi)
      simp only [Bool.not_eq_true] at h1
      rw [h1, Bool.and_false]
    · rw [decide_eq_false hi]; rfl
theorem ato_iff {r : Rit} (k : Nat) : atS r k ≠ 0 ↔ atoB r k = true := by
  rw [← Bool.not_eq_false, ne_eq]
  refine not_congr ?_
  rw [eq_zero_iff]
  unfold atoB
  rw [List.any_eq_false]
  constructor
  · intro h i hi
    have h1 := h i
    rw [atS_bit, decide_eq_true (List.mem_range.1 hi)] at h1
    simpa using h1
  · intro h i
    rw [atS_bit]
    by_cases hi : i < r.n
    · have h1 := h i (List.mem_range.2 hi)
      simp only [Bool.not_eq_true] at h1
      rw [h1, Bool.and_false]
    · rw [decide_eq_false hi]; rfl
end Go.Proofs.YtagjeeimglecnaaDoor
/- Rite: small functions, walked: within, has, of, TrailingZeros16, isName, isList. -/
namespace Go.Proofs.YtagjeeimglecnaaDoor
open Go Go.RowKit Go.Shelf
set_option maxHeartbeats 4000000
set_option maxRecDepth 100000
theorem rwithin_any (n a b : Int) (w : World) : Calls Tryd.prog 44 #[.int .i64 n, .int .i64 a, .int .i64 b] w fun e w' => e = .returned (.bool (decide (a ≤ n) && decide (n ≤ b))) ∧ w = w' := by
  by_cases h1 : a ≤ n
  · by_cases h2 : n ≤ b
    · go_enter Tryd.func44, Tryd.ntmps44
      go_wp2_with fail
      go_ret
      exact ⟨ret_bool (by simp [h1, h2]), rfl⟩
    · go_enter Tryd.func44, Tryd.ntmps44
      go_wp2_with fail
      go_ret
      exact ⟨ret_bool (by simp [h1, h2]), rfl⟩
  · go_enter Tryd.func44, Tryd.ntmps44
    go_wp2_with fail
    go_ret
    exact ⟨ret_bool (by rw [decide_eq_false (show ¬ a ≤ n by omega)]; rfl), rfl⟩
theorem rname_any (s : ByteArray) (w : World) (hs : s.size ≤ maxLen) : Calls Tryd.prog 45 #[.string s] w fun e w' => e = .returned (.bool (wordB s)) ∧ Below w.heap.size w w' := by
  unfold maxLen at hs
  have HT := hide (fun (w : World) => Any.strings_Trim_laid lays160 (by kernel_rfl) s ⟨azB.toArray⟩ w (by omega) (by decide) (ascii_of_all (by decide)))
  obtain ⟨R, hR⟩ : ∃ R, Go.Lib.trimS s.data.toList azB = R := ⟨_, rfl⟩
  have hall : R = [] ↔ s.data.toList.all lowerB = true := by rw [← hR]; exact trimS_nil _
  have HW := hide (fun (w : World) => (by
    have h := rwithin_any s.size 1 12 w
    have e : (decide ((1 : Int) ≤ (s.size : Int)) && decide ((s.size : Int) ≤ 12)) = (decide (1 ≤ s.size) && decide (s.size ≤ 12)) := by
      rw [Bool.eq_iff_iff]; simp; omega
    rw [e] at h; exact h : Calls Tryd.prog 44 #[.int .i64 s.size, .int .i64 1, .int .i64 12] w fun e w' => e = .returned (.bool (decide (1 ≤ s.size) && decide (s.size ≤ 12))) ∧ w = w'))
  rw [hR] at HT
  unfold wordB
  have HALL := hide hall
  clear hall hR
  generalize (decide (1 ≤ s.size) && decide (s.size ≤ 12)) = b at HW ⊢
  rcases b with _ | _
  · go_enter Tryd.func45, Tryd.ntmps45
    go_wp2_with fail
    refine (HW.out _).mono ?_
    rintro e w2 ⟨rfl, rfl⟩
    go_wp2_with fail
    go_ret
    exact ⟨rfl, Below.refl _ _⟩
  · rcases R with _ | ⟨c, R⟩
    · have hv := HALL.out.1 rfl
      rw [hv]
      go_enter Tryd.func45, Tryd.ntmps45
      go_wp2_with fail
      refine (HW.out _).mono ?_
      rintro e w2 ⟨rfl, rfl⟩
      go_wp2_with fail
      refine (HT.out _).mono ?_
      rintro e w3 ⟨rfl, hb3⟩
      go_wp2_with fail
      go_ret
      exact ⟨rfl, hb3⟩
    · have hv : s.data.toList.all lowerB = false := by
        rw [← Bool.not_eq_true, ← HALL.out]; simp
      rw [hv]
      go_enter Tryd.func45, Tryd.ntmps45
      go_wp2_with fail
      refine (HW.out _).mono ?_
      rintro e w2 ⟨rfl, rfl⟩
      go_wp2_with fail
      refine (HT.out _).mono ?_
      rintro e w3 ⟨rfl, hb3⟩
      have hne : (ByteArray.toList (ByteArray.mk (c :: R).toArray) == ByteArray.toList (ByteArray.mk #[])) = false := str_ne (by simp)
      go_wp2_with fail
      go_ret
      exact ⟨rfl, hb3⟩
/-- the table of the library -/
def TB (w : World) : Prop := 0 < w.heap.size ∧ ∀ j, j < 32 → w.cell? ⟨0, j, none⟩ = some (.int .u8 (Lib.deBruijn32tab.getD j 0 : Nat))
theorem TB.ext {w w' : World} (h : TB w) (hb : Below w.heap.size w w') : TB w' := ⟨Nat.lt_of_lt_of_le h.1 hb.size, fun j hj => (hb.cell (p := ⟨0, j, none⟩) h.1).trans (h.2 j hj)⟩
theorem TB.of {w w' : World} {B : Nat} (h : TB w) (hB : w.heap.size ≤ B) (hb : Below B w w') : TB w' := h.ext (hb.mono hB)
theorem wrap32 {n : Nat} (h : n < 4294967296) : IntKind.u32.wrap (n : Int) = (n : Int) := by
  have hk : IntKind.u32.wrap (n : Int) = (n : Int) % 4294967296 := by simp [IntKind.wrap, IntKind.signed, IntKind.bits]
  rw [hk]; omega
theorem tz16_any (x : Nat) (w : World) (hx : x < 65536) (h0 : x ≠ 0) (hT : TB w) :
    Calls Tryd.prog 88 #[.int .u16 x] w fun e w' => e = .returned (.int .i64 (Lib.ctz 16 x : Nat)) ∧ w = w' := by
  obtain ⟨hlow, hk⟩ := Lib.lowest_bit 16 x h0 hx
  obtain ⟨hi, htab⟩ := Lib.deBruijn32_at (Lib.ctz 16 x) (by omega)
  have hcell := hT.2 _ hi
  rw [htab] at hcell
  have e1 : IntKind.u16.wrap (-(x : Int)) = ((65536 - x : Nat) : Int) := by
    have hk : IntKind.u16.wrap (-(x : Int)) = (-(x : Int)) % 65536 := by simp [IntKind.wrap, IntKind.signed, IntKind.bits]
    rw [hk]; omega
  have e2 : bits BinOp.and IntKind.u16 (x : Int) ((65536 - x : Nat) : Int) = ((2 ^ Lib.ctz 16 x : Nat) : Int) := by
    rw [and16 hx (by omega)]
    exact congrArg _ hlow
  generalize Lib.ctz 16 x = k at *
  have hp : 2 ^ k ≤ 2 ^ 15 := Nat.pow_le_pow_right (by decide) (by omega)
  obtain ⟨P, hP⟩ : ∃ P, 2 ^ k = P := ⟨_, rfl⟩
  rw [hP] at hp hi hcell e2
  have e3 : IntKind.u32.wrap (P : Int) = (P : Int) := wrap32 (by omega)
  have e4 : IntKind.u32.wrap ((P : Int) * 125613361) = ((P * 125613361 % 4294967296 : Nat) : Int) := by
    have hk : IntKind.u32.wrap ((P : Int) * 125613361) = ((P : Int) * 125613361) % 4294967296 := by simp [IntKind.wrap, IntKind.signed, IntKind.bits]
    rw [hk]; omega
  obtain ⟨Z, hZ⟩ : ∃ Z, P * 125613361 % 4294967296 = Z := ⟨_, rfl⟩
  rw [hZ] at hi hcell e4
  have e5 : ((Z : Int) / 134217728) = ((Z / 134217728 : Nat) : Int) := by omega
  obtain ⟨j, hj⟩ : ∃ j, Z / 134217728 = j := ⟨_, rfl⟩
  rw [hj] at hi hcell e5
  have e6 : IntKind.i64.wrap (k : Int) = (k : Int) := IntWalk.i64_in _ (by omega)
  have hx0 : ((x : Int) == 0) = false := by rw [beq_eq_false_iff_ne]; omega
  have i0 : (0 : Int) ≤ (j : Int) := by omega
  have i1 : (j : Int) < 32 := by omega
  clear hP hZ hj hlow htab hT h0
  go_enter Tryd.func88, Tryd.ntmps88
  go_wp2_with (simp only [e1, e2, e3, e4, e5])
  go_ret
  exact ⟨rfl, rfl⟩
end Go.Proofs.YtagjeeimglecnaaDoor
/- Rite: sets and moments, walked: has, of, list, isList, on, with. -/
namespace Go.Proofs.YtagjeeimglecnaaDoor
open Go Go.RowKit Go.Shelf
set_option maxHeartbeats 4000000
set_option maxRecDepth 100000
theorem has_any (s i : Nat) (w : World) (hs : s < 65536) (hi : i < 16) :
    Calls Tryd.prog 66 #[.int .u16 s, .int .i64 i] w fun e w' => e = .returned (.bool (s.testBit i)) ∧ w = w' := by
  have i0 : (0 : Int) ≤ (i : Int) := by omega
  have i1 : (i : Int) ≤ 64 := by omega
  have e1 : (s : Int) / 2 ^ i = ((s / 2 ^ i : Nat) : Int) := by rw [Int.natCast_ediv, Int.natCast_pow]; rfl
  have e2 : bits BinOp.and IntKind.u16 ((s / 2 ^ i : Nat) : Int) ((1 : Nat) : Int) = (((s / 2 ^ i) &&& 1 : Nat) : Int) := and16 (Nat.lt_of_le_of_lt (Nat.div_le_self _ _) hs) (by decide)
  have e3 : (bits BinOp.and IntKind.u16 ((s / 2 ^ i : Nat) : Int) 1 == 1) = s.testBit i := by
    rw [show (1 : Int) = ((1 : Nat) : Int) from rfl, e2, Nat.and_one_is_mod, Nat.testBit_eq_decide_div_mod_eq, Bool.eq_iff_iff]
    simp
    omega
  have E := hide (And.intro e1 e3)
  clear e1 e2 e3
  go_enter Tryd.func66, Tryd.ntmps66
  go_wp2_with fail
  go_ret
  exact ⟨ret_bool (by rw [E.out.1]; exact E.out.2), rfl⟩
theorem seL_step {l : List Int} {k i : Nat} (hk : k < l.length) (hx : l.getD k 0 = (i : Int)) (hi : i < 16) : seL (l.take (k + 1)) = seL (l.take k) ||| 2 ^ i := by
  refine Nat.eq_of_testBit_eq fun j => ?_
  rw [Nat.testBit_or, Nat.testBit_two_pow]
  by_cases hj : j < 16
  · rw [seL_bit _ _ hj, seL_bit _ _ hj]
    have e : l.take (k + 1) = l.take k ++ [(i : Int)] := by
      rw [List.take_succ_eq_append_getElem hk]
      rw [List.getD_eq_getElem?_getD, List.getElem?_eq_getElem hk] at hx
      simp only [Option.getD_some] at hx
      rw [hx]
    rw [e, Bool.eq_iff_iff]
    simp [List.contains_iff_mem]
    constructor
    · rintro (h | h)
      · exact .inl h
      · exact .inr (by omega)
    · rintro (h | h)
      · exact .inl h
      · exact .inr (by omega)
  · rw [bit_ge (n := 16) (seL_lt _) (by omega), bit_ge (n := 16) (seL_lt _) (by omega)]
    simp
    omega
theorem of_any (A : Option Addr) (c : Nat) (l : List Int) (w : World) (hl : l.length ≤ 1000000) (hA : LI w w.heap.size A l) (hx : ∀ x ∈ l, 0 ≤ x ∧ x < 16) :
    Calls Tryd.prog 47 #[.slice A l.length c] w fun e w' => e = .returned (.int .u16 (seL l : Nat)) ∧ w = w' := by
  have HA := hide hA
  have HX := hide hx
  obtain ⟨n, hn⟩ : ∃ n, l.length = n := ⟨_, rfl⟩
  have HN := hide hn
  rw [hn] at hl
  rw [hn]
  clear hA hx hn
  go_enter Tryd.func47, Tryd.ntmps47
  go_wp2_with fail
  go_loopw [2, 4, 7] (fun s _ i wr => ∃ k : Nat, k ≤ n ∧ i = .int .i64 k ∧ s = .int .u16 (seL (l.take k) : Nat) ∧ Hid (w = wr)) (fun _ _ i _ => n - (intOf i).toNat)
  case atStart => exact ⟨0, Nat.zero_le _, rfl, rfl, hide rfl⟩
  case round =>
    obtain ⟨k, hk, rfl, rfl, HW⟩ := hrel
    obtain rfl := HW.out
    have hst : IntKind.i64.wrap ((k : Int) + 1) = ((k + 1 : Nat) : Int) := by rw [IntWalk.i64_in _ (by omega)]; omega
    by_cases hlt : k < n
    · have hlt' : (k : Int) < (n : Int) := by omega
      obtain ⟨b, off, rfl, hb, hc⟩ := VR1.at_ HA.out (show k < l.length by rw [HN.out]; exact hlt)
      have hm : l.getD k 0 ∈ l := by
        have h1 : k < l.length := by rw [HN.out]; exact hlt
        rw [List.getD_eq_getElem?_getD, List.getElem?_eq_getElem h1]
        exact List.getElem_mem h1
      have hxx := HX.out _ hm
      obtain ⟨i, hi⟩ : ∃ i : Nat, l.getD k 0 = (i : Int) := ⟨(l.getD k 0).toNat, by omega⟩
      rw [hi] at hxx
      have HS := hide (seL_step (by rw [HN.out]; exact hlt) hi (by omega))
      replace hc : w.cell? ⟨b, off + k, none⟩ = some (.int .i64 (i : Int)) := by rw [← hi]; exact hc
      have hi16 : i < 16 := by omega
      have p0 : (0 : Int) ≤ (i : Int) := by omega
      have p1 : (i : Int) ≤ 64 := by omega
      have hp : 2 ^ i ≤ 2 ^ 15 := Nat.pow_le_pow_right (by decide) (by omega)
      obtain ⟨P, hP⟩ : ∃ P : Nat, 2 ^ i = P := ⟨_, rfl⟩
      have hPi : (2 : Int) ^ i = (P : Int) := by rw [← hP, Int.natCast_pow]; rfl
      rw [hP] at hp HS
      have p2 : IntKind.u16.wrap (1 * 2 ^ i) = (P : Int) := by rw [Int.one_mul, hPi]; exact wrap16 (by omega)
      have p3 : IntKind.u16.wrap (2 ^ i) = (P : Int) := by rw [hPi]; exact wrap16 (by omega)
      have p6 : IntKind.u16.wrap (P : Int) = (P : Int) := wrap16 (by omega)
      have p4 := or16 (seL_lt (l.take k)) (show P < 65536 by omega)
      have HP4 : Hid (bits BinOp.or IntKind.u16 (seL (l.take k) : Nat) (P : Nat) = ((seL (l.take (k + 1)) : Nat) : Int)) := hide (by rw [p4, HS.out])
      clear hm hxx hi hP p4 hp
      generalize seL (l.take k) = S at HP4 ⊢
      clear HS
      have p5 := HP4.out
      go_wp2_with fail
      go_roundw
      case rel => exact ⟨k + 1, by omega, by go_num, rfl, by first | exact hide rfl | exact hide trivial⟩
      case measure => simp [intOf]; omega
    · obtain rfl : k = n := by omega
      have hnl : ¬ (k : Int) < (k : Int) := by omega
      have HT : Hid (l.take k = l) := hide (by rw [← HN.out, List.take_length])
      go_wp2_with fail
      go_ret
      exact ⟨by first | rfl | (rw [HT.out]; rfl), rfl⟩
/-- of a number alone, laid for the call -/
theorem of1_any (i : Nat) (w : World) (hi : i < 16) :
    Calls Tryd.prog 47 #[.slice (some ⟨w.heap.size, 0, none⟩) 1 1] (w.alloc (.cells #[.int .i64 i] 3)) fun e w' => e = .returned (.int .u16 ((2 ^ i : Nat) : Int)) ∧ Below w.heap.size w w' := by
  refine (of_any (some ⟨w.heap.size, 0, none⟩) 1 [(i : Int)] _ (by simp) (LI.one w i) (fun x hx => by rw [List.mem_singleton.1 hx]; omega)).mono ?_
  rintro e w' ⟨rfl, rfl⟩
  refine ⟨?_, (Below.refl _ _).alloc (Nat.le_refl _) _⟩
  have h := seL_step (l := [(i : Int)]) (k := 0) (i := i) (by simp) rfl hi
  have h2 : seL [(i : Int)] = 2 ^ i := by
    have e1 : ([(i : Int)]).take (0 + 1) = [(i : Int)] := rfl
    have e2 : seL (([(i : Int)]).take 0) = 0 := rfl
    rw [e1, e2, Nat.zero_or] at h
    exact h
  rw [h2]
end Go.Proofs.YtagjeeimglecnaaDoor
