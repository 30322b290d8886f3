/- Contracts of chapter 8 on the book: Fire. -/
import Derived.Test.YtlhekifmkkgjlaaMc
import Derived.Test.YtlhekifmkkgjlaaBoxes
set_option linter.unusedSimpArgs false
set_option linter.unusedVariables false
set_option linter.unnecessarySimpa false
namespace Go.Proofs.Ytlhekifmkkgjlaa
open Go Go.RowKit Go.Shelf
set_option maxHeartbeats 2000000
set_option maxRecDepth 100000
/-- the error of the i-th batch behind those ahead of it -/
def batE (n : Nat) (ws : Nat → Wa) (x y : Nat → Int) (i : Nat) : Int :=
  if ¬ (0 ≤ x i ∧ x i ≤ (n : Int) - 1) then 7 else if anyTo (fun j => decide (x j = x i)) i = true then 6 else if ¬ (1 ≤ y i ∧ y i ≤ 1000000000) then 2 else if (ws (x i).toNat).dry < y i then 9 else 0
/-- the error of the first of k batches that has one -/
def batsE (n : Nat) (ws : Nat → Wa) (x y : Nat → Int) : Nat → Int
  | 0 => 0
  | k + 1 => if batsE n ws x y k ≠ 0 then batsE n ws x y k else batE n ws x y k
theorem batsE_zero {n : Nat} {ws : Nat → Wa} {x y : Nat → Int} {k : Nat} (h : batsE n ws x y k = 0) (h' : batE n ws x y k = 0) : batsE n ws x y (k + 1) = 0 := by
  show (if batsE n ws x y k ≠ 0 then batsE n ws x y k else batE n ws x y k) = 0
  rw [if_neg (by omega)]; exact h'
theorem batsE_first {n : Nat} {ws : Nat → Wa} {x y : Nat → Int} {k c : Nat} (h : batsE n ws x y k = 0) (h' : batE n ws x y k = c) (hc : c ≠ 0) : ∀ m, k < m → batsE n ws x y m = c
  | 0, hm => absurd hm (by omega)
  | m + 1, hm => by
    show (if batsE n ws x y m ≠ 0 then batsE n ws x y m else batE n ws x y m) = c
    by_cases e : k = m
    · subst e
      rw [if_neg (by omega)]; exact h'
    · have := batsE_first h h' hc m (by omega)
      rw [if_pos (by omega)]; exact this
/-- the room that k batches take -/
def spaceTo (sp : Nat → Int) (x y : Nat → Int) : Nat → Int
  | 0 => 0
  | k + 1 => spaceTo sp x y k + y k * sp (x k).toNat
theorem batsE_all {n : Nat} {ws : Nat → Wa} {x y : Nat → Int} : ∀ {m : Nat}, batsE n ws x y m = 0 → ∀ k, k < m → batE n ws x y k = 0
  | 0, _, k, hk => absurd hk (by omega)
  | m + 1, h, k, hk => by
    have h1 : (if batsE n ws x y m ≠ 0 then batsE n ws x y m else batE n ws x y m) = 0 := h
    by_cases e : batsE n ws x y m = 0
    · rw [if_neg (by omega)] at h1
      by_cases e' : k = m
      · subst e'; exact h1
      · exact batsE_all e k (by omega)
    · rw [if_pos e] at h1
      exact absurd h1 e
theorem batE_ok {n : Nat} {ws : Nat → Wa} {x y : Nat → Int} {k : Nat} (h : batE n ws x y k = 0) : ∃ K : Nat, x k = K ∧ K < n ∧ (∀ j, j < k → x j ≠ x k) ∧ 1 ≤ y k ∧ y k ≤ 1000000000 ∧ y k ≤ (ws K).dry := by
  unfold batE at h
  by_cases h1 : 0 ≤ x k ∧ x k ≤ (n : Int) - 1
  · rw [if_neg (by omega)] at h
    by_cases h2 : anyTo (fun j => decide (x j = x k)) k = true
    · rw [if_pos h2] at h; omega
    · rw [if_neg h2] at h
      by_cases h3 : 1 ≤ y k ∧ y k ≤ 1000000000
      · rw [if_neg (by omega)] at h
        by_cases h4 : (ws (x k).toNat).dry < y k
        · rw [if_pos h4] at h; omega
        · exact ⟨(x k).toNat, by omega, by omega, fun j hj e => h2 ((anyTo_iff _ _).2 ⟨j, hj, by simp [e]⟩), h3.1, h3.2, by omega⟩
      · rw [if_pos h3] at h; omega
  · rw [if_pos h1] at h; omega
/-- the stores behind k batches -/
def fireW (ws : Nat → Wa) (x y : Nat → Int) : Nat → Nat → Wa
  | 0 => ws
  | k + 1 => upd (fireW ws x y k) (x k).toNat (((fireW ws x y k (x k).toNat).put 1 ((fireW ws x y k (x k).toNat).dry - y k)).put 2 ((fireW ws x y k (x k).toNat).burning + y k))
theorem fireW_far {ws : Nat → Wa} {x y : Nat → Int} {K : Nat} : ∀ {k : Nat}, (∀ j, j < k → (x j).toNat ≠ K) → fireW ws x y k K = ws K
  | 0, _ => rfl
  | k + 1, h => by
    show upd (fireW ws x y k) (x k).toNat _ K = ws K
    rw [upd_ne _ _ (fun e => h k (by omega) e.symm)]
    exact fireW_far fun j hj => h j (by omega)
/-- only the stores and the book have changed -/
def Apart (w w' : World) (S b : Nat) : Prop := w'.os = w.os ∧ w'.tape = w.tape ∧ w'.output = w.output ∧ w.heap.size ≤ w'.heap.size ∧ ∀ j, j < w.heap.size → j ≠ S → j ≠ b → w'.heap[j]? = w.heap[j]?
theorem Apart.of_below {w w' : World} {S b : Nat} (h : Below w.heap.size w w') : Apart w w' S b := ⟨h.os, h.tape, h.output, h.size, fun j hj _ _ => h.block j hj⟩
theorem Apart.then {w w1 w' : World} {S b : Nat} (h : Apart w w1 S b) {row : Option Nat} (hg : w1.grownBy w' row) (hr : ∀ j, row = some j → j = S ∨ j = b ∨ w.heap.size ≤ j) : Apart w w' S b := by
  obtain ⟨h1, h2, h3, h4, h5⟩ := h
  refine ⟨hg.os.trans h1, hg.tape.trans h2, hg.output.trans h3, Nat.le_trans h4 hg.size, fun j hj hS hb => ?_⟩
  refine (hg.block j (by omega) (fun e => ?_)).trans (h5 j hj hS hb)
  rcases hr j e.symm with h | h | h <;> omega
theorem Apart.cell {w w' : World} {S b : Nat} (h : Apart w w' S b) {p : Addr} (hp : p.block < w.heap.size) (hS : p.block ≠ S) (hb : p.block ≠ b) : w'.cell? p = w.cell? p := World.cell?_of_block (w := w) (h.2.2.2.2 p.block hp hS hb)
def FirePost (n m : Nat) (room : Int) (sp : Nat → Int) (ws : Nat → Wa) (x y : Nat → Int) (b S : Nat) (spv : Value) (w : World) (e : Ending) (w' : World) : Prop :=
  (batsE n ws x y m ≠ 0 ∧ e = .returned (.int .i64 (batsE n ws x y m)) ∧ Below w.heap.size w w') ∨ (batsE n ws x y m = 0 ∧ room < spaceTo sp x y m ∧ e = .returned (.int .i64 8) ∧ Below w.heap.size w w') ∨ (batsE n ws x y m = 0 ∧ spaceTo sp x y m ≤ room ∧ e = .returned (.int .i64 0) ∧ ∃ ov, Blk w' b 148 #[spv, .int .i64 room, .slice (some ⟨S, 0, none⟩) n n, ov] ∧ w'.ownsRow w.heap.size 3 1 ov m (cellsOf 1 m fun j _ => .int .i64 (x j)) ∧ Stores w' S n (fireW ws x y m) ∧ Apart w w' S b)
theorem fire_any (b S n m c ab aoff sb soff sc : Nat) (room : Int) (sp : Nat → Int) (ws : Nat → Wa) (x y : Nat → Int) (w : World) (hbk : Blk w b 148 #[.slice (some ⟨sb, soff, none⟩) n sc, .int .i64 room, .slice (some ⟨S, 0, none⟩) n n, .slice none 0 0]) (hn1 : 1 ≤ n) (hn : n ≤ 20) (hS : Stores w S n ws) (ho : ∀ k, k < n → OkW (ws k)) (hsp : IR w w.heap.size (some ⟨sb, soff, none⟩) n sp) (hspb : ∀ k, k < n → 1 ≤ sp k ∧ sp k ≤ 1000) (habS : ab ≠ S) (habb : ab ≠ b) (hm1 : 1 ≤ m) (hm : m ≤ 20) (hR : PI w w.heap.size (some ⟨ab, aoff, none⟩) m x y) (hx : ∀ i, i < m → inInt (x i)) : Calls Try.prog 40 #[.pointer (some ⟨b, 0, none⟩), .slice (some ⟨ab, aoff, none⟩) m c] w (FirePost n m room sp ws x y b S (.slice (some ⟨sb, soff, none⟩) n sc) w) := by
  have HHAS := hide (fun (kind : Int) W (h : Below w.heap.size w W) => has_any b S n _ _ room kind W (hbk.ext h) hn hn1)
  have HBK := hide hbk
  have HST := hide hS
  have HOK := hide ho
  have HSP := hide hsp
  have HSB := hide hspb
  have HR := hide hR
  have HX := hide hx
  clear hbk hS ho hsp hspb hR hx
  have m2 : ¬ (m : Int) = 0 := by omega
  have m3 : ¬ 20 < (m : Int) := by omega
  have hmm := @run_makeMap Try.prog
  go_enter Try.func40, Try.ntmps40
  obtain ⟨g1, c0, c1, c2, c3⟩ := bx4 HBK.out
  go_wp2_with fail
  clear g1 c0 c1 c2 c3 hmm
  go_loopw [5, 33] (fun s i wr => ∃ k : Nat, i = .int .i64 k ∧ k ≤ m ∧ s = .int .i64 (spaceTo sp x y k) ∧ Hid (batsE n ws x y k = 0) ∧ Hid (0 ≤ spaceTo sp x y k ∧ spaceTo sp x y k ≤ k * 1000000000000) ∧ Hid (SeenAt wr w.heap.size k (fun z => anyTo (fun j => decide (x j = z)) k)) ∧ Hid (Below w.heap.size w wr)) (fun _ i _ => m - (intOf i).toNat)
  case atStart => exact ⟨0, rfl, by omega, rfl, hide rfl, hide ⟨by unfold spaceTo; omega, by unfold spaceTo; omega⟩, hide (SeenAt.made w), hide ((Below.refl _ w).alloc (Nat.le_refl _) _)⟩
  case round =>
    obtain ⟨k, rfl, hk, rfl, HE0, HSB2, HSEEN, HB⟩ := hrel
    by_cases hlt : k < m
    · obtain ⟨b', off', he, hb', hc1, hc2⟩ := PI.at_ (P2.below HR.out HB.out (Nat.le_refl _)) hlt
      injection he with he
      injection he with h1 h2
      subst h1 h2
      have hz : ab < wr.heap.size := by have := HB.out.size; omega
      have i1 : (0 : Int) ≤ (k : Int) := by omega
      have i2 : (k : Int) < (m : Int) := by omega
      go_wp2_with fail
      refine (HHAS.out (x k) _ (HB.out.alloc HB.out.size _)).mono ?_
      rintro e w1 ⟨rfl, hb1⟩
      have X1 := hide ((Blk.new wr 107 #[.int .i64 (x k), .int .i64 (y k)]).ext hb1)
      have HSEEN1 := hide ((HSEEN.out.alloc (.cells #[.int .i64 (x k), .int .i64 (y k)] 107)).ext hb1)
      have B1 := hide ((HB.out.alloc HB.out.size (.cells #[.int .i64 (x k), .int .i64 (y k)] 107)).trans (hb1.mono (HB.out.alloc HB.out.size _).size))
      clear hb1 hc1 hc2 hz hb'
      by_cases hk1 : 0 ≤ x k ∧ x k ≤ (n : Int) - 1
      · rw [decide_eq_true hk1]
        have hlk := seen_look HSEEN1.out (HX.out k hlt)
        cases hq : anyTo (fun j => decide (x j = x k)) k
        · rw [hq] at hlk
          obtain ⟨eXl, eX0, eX1⟩ := bx2 X1.out
          go_wp2_with fail
          refine (within_any 1 1000000000 _ 1 1 (fun _ => y k) _ (by decide) ?_).mono ?_
          · simpa using IR.one w1 (y k) 3
          rw [wiB_one]
          rintro e w2 ⟨rfl, hb2⟩
          have z1 := B1.out.size
          have zX := X1.out.lt
          have B2 := hide ((B1.out.alloc z1 (.cells #[.int .i64 (y k)] 3)).trans (hb2.mono (by simp only [World.size_alloc]; omega)))
          have X2 := hide ((X1.out.alloc (.cells #[.int .i64 (y k)] 3)).below hb2 (by simp only [World.size_alloc]; omega))
          have HSEEN2 := hide ((HSEEN1.out.alloc (.cells #[.int .i64 (y k)] 3)).kept (grown_none (hb2.mono (Nat.le_refl _))) (by simp))
          clear hb2 hlk
          clear eXl eX0 eX1
          by_cases hy : 1 ≤ y k ∧ y k ≤ 1000000000
          · rw [decide_eq_true hy]
            obtain ⟨K, hK⟩ : ∃ K : Nat, x k = K := ⟨(x k).toNat, by omega⟩
            have hKn : K < n := by omega
            have hbe : batE n ws x y k = if (ws K).dry < y k then 9 else 0 := by
              unfold batE
              rw [if_neg (by omega), if_neg (by rw [hq]; decide), if_neg (by omega), hK, Int.toNat_natCast]
            have hKi : inInt (K : Int) := hK ▸ HX.out k hlt
            have i3 : (0 : Int) ≤ (K : Int) := by omega
            have i4 : (K : Int) < (n : Int) := by omega
            go_wp2_with fail
            rw [hK] at X2
            have HSA : Hid ((fun W : World => (W.cell? ⟨b, 2, none⟩ = some (.slice (some ⟨S, 0, none⟩) n n) ∧ W.cell? ⟨wr.heap.size, 0, none⟩ = some (.int .i64 K) ∧ W.cell? ⟨wr.heap.size, 1, none⟩ = some (.int .i64 (y k))) ∧ W.cell? ⟨S, K * 7 + 1, none⟩ = some (.int .i64 (ws K).dry)) w2.drew) := hide ⟨⟨(bx4 (HBK.out.ext B2.out)).2.2.2.1, (bx2 X2.out).2⟩, (B2.out.cell (p := ⟨S, K * 7 + 1, none⟩) (HST.out.lt)).trans (HST.out.2 K hKn).2.2.2.1⟩
            by_cases hd : (ws K).dry < y k
            · refine wp_region_J (fun W : World => (W.cell? ⟨b, 2, none⟩ = some (.slice (some ⟨S, 0, none⟩) n n) ∧ W.cell? ⟨wr.heap.size, 0, none⟩ = some (.int .i64 K) ∧ W.cell? ⟨wr.heap.size, 1, none⟩ = some (.int .i64 (y k))) ∧ W.cell? ⟨S, K * 7 + 1, none⟩ = some (.int .i64 (ws K).dry)) (by kernel_rfl) ?_
              refine wpAnyJ_take 0 (v := ?_) (by first | exact hF | exact wideFn) HSA.out rfl (by kernel_rfl) (by kernel_rfl) (by kernel_rfl) (by kernel_rfl) rfl ?_ (fun _ _ _ h => h) ?_
              rotate_left
              · intro W hSW
                simp only [List.getElem_toArray, List.getElem_cons_zero, List.getElem_cons_succ]
                (try dsimp only at hSW)
                go_simp
                with_reducible rfl
              (try simp only [List.getElem_toArray, List.getElem_cons_zero, List.getElem_cons_succ, Act.put, List.setIfInBounds_toArray, List.set_cons_zero, List.set_cons_succ])
              refine wpAnyJ_take 1 (v := ?_) (by first | exact hF | exact wideFn) HSA.out rfl (by kernel_rfl) (by kernel_rfl) (by kernel_rfl) (by kernel_rfl) rfl ?_ (fun _ _ _ h => h) ?_
              rotate_left
              · intro W hSW
                simp only [List.getElem_toArray, List.getElem_cons_zero, List.getElem_cons_succ]
                (try dsimp only at hSW)
                go_simp
                with_reducible rfl
              (try simp only [List.getElem_toArray, List.getElem_cons_zero, List.getElem_cons_succ, Act.put, List.setIfInBounds_toArray, List.set_cons_zero, List.set_cons_succ])
              refine wpAnyJ_take 2 (v := ?_) (by first | exact hF | exact wideFn) HSA.out rfl (by kernel_rfl) (by kernel_rfl) (by kernel_rfl) (by kernel_rfl) rfl ?_ (fun _ _ _ h => h) ?_
              rotate_left
              · intro W hSW
                simp only [List.getElem_toArray, List.getElem_cons_zero, List.getElem_cons_succ]
                (try dsimp only at hSW)
                go_simp
                with_reducible rfl
              (try simp only [List.getElem_toArray, List.getElem_cons_zero, List.getElem_cons_succ, Act.put, List.setIfInBounds_toArray, List.set_cons_zero, List.set_cons_succ])
              refine wpAnyJ_take 3 (v := ?_) (by first | exact hF | exact wideFn) HSA.out rfl (by kernel_rfl) (by kernel_rfl) (by kernel_rfl) (by kernel_rfl) rfl ?_ (fun _ _ _ h => h) ?_
              rotate_left
              · intro W hSW
                simp only [List.getElem_toArray, List.getElem_cons_zero, List.getElem_cons_succ]
                (try dsimp only at hSW)
                go_simp
                with_reducible rfl
              (try simp only [List.getElem_toArray, List.getElem_cons_zero, List.getElem_cons_succ, Act.put, List.setIfInBounds_toArray, List.set_cons_zero, List.set_cons_succ])
              refine wpAnyJ_take 4 (v := ?_) (by first | exact hF | exact wideFn) HSA.out rfl (by kernel_rfl) (by kernel_rfl) (by kernel_rfl) (by kernel_rfl) rfl ?_ (fun _ _ _ h => h) ?_
              rotate_left
              · intro W hSW
                simp only [List.getElem_toArray, List.getElem_cons_zero, List.getElem_cons_succ]
                (try dsimp only at hSW)
                go_simp
                with_reducible rfl
              (try simp only [List.getElem_toArray, List.getElem_cons_zero, List.getElem_cons_succ, Act.put, List.setIfInBounds_toArray, List.set_cons_zero, List.set_cons_succ])
              refine wpAnyJ_take 5 (v := ?_) (by first | exact hF | exact wideFn) HSA.out rfl (by kernel_rfl) (by kernel_rfl) (by kernel_rfl) (by kernel_rfl) rfl ?_ (fun _ _ _ h => h) ?_
              rotate_left
              · intro W hSW
                simp only [List.getElem_toArray, List.getElem_cons_zero, List.getElem_cons_succ]
                (try dsimp only at hSW)
                go_simp
                with_reducible rfl
              (try simp only [List.getElem_toArray, List.getElem_cons_zero, List.getElem_cons_succ, Act.put, List.setIfInBounds_toArray, List.set_cons_zero, List.set_cons_succ])
              refine wpAnyJ_take 6 (v := ?_) (by first | exact hF | exact wideFn) HSA.out rfl (by kernel_rfl) (by kernel_rfl) (by kernel_rfl) (by kernel_rfl) rfl ?_ (fun _ _ _ h => h) ?_
              rotate_left
              · intro W hSW
                simp only [List.getElem_toArray, List.getElem_cons_zero, List.getElem_cons_succ]
                (try dsimp only at hSW)
                go_simp
                with_reducible rfl
              (try simp only [List.getElem_toArray, List.getElem_cons_zero, List.getElem_cons_succ, Act.put, List.setIfInBounds_toArray, List.set_cons_zero, List.set_cons_succ])
              refine wpAnyJ_take 7 (v := ?_) (by first | exact hF | exact wideFn) HSA.out rfl (by kernel_rfl) (by kernel_rfl) (by kernel_rfl) (by kernel_rfl) rfl ?_ (fun _ _ _ h => h) ?_
              rotate_left
              · intro W hSW
                simp only [List.getElem_toArray, List.getElem_cons_zero, List.getElem_cons_succ]
                (try dsimp only at hSW)
                go_simp
                with_reducible rfl
              (try simp only [List.getElem_toArray, List.getElem_cons_zero, List.getElem_cons_succ, Act.put, List.setIfInBounds_toArray, List.set_cons_zero, List.set_cons_succ])
              refine wpAnyJ_take 8 (v := ?_) (by first | exact hF | exact wideFn) HSA.out rfl (by kernel_rfl) (by kernel_rfl) (by kernel_rfl) (by kernel_rfl) rfl ?_ (fun _ _ _ h => h) ?_
              rotate_left
              · intro W hSW
                simp only [List.getElem_toArray, List.getElem_cons_zero, List.getElem_cons_succ]
                (try dsimp only at hSW)
                go_simp
                with_reducible rfl
              (try simp only [List.getElem_toArray, List.getElem_cons_zero, List.getElem_cons_succ, Act.put, List.setIfInBounds_toArray, List.set_cons_zero, List.set_cons_succ])
              refine wpAnyJ_take 9 (v := ?_) (by first | exact hF | exact wideFn) HSA.out rfl (by kernel_rfl) (by kernel_rfl) (by kernel_rfl) (by kernel_rfl) rfl ?_ (fun _ _ _ h => h) ?_
              rotate_left
              · intro W hSW
                simp only [List.getElem_toArray, List.getElem_cons_zero, List.getElem_cons_succ]
                (try dsimp only at hSW)
                go_simp
                with_reducible rfl
              (try simp only [List.getElem_toArray, List.getElem_cons_zero, List.getElem_cons_succ, Act.put, List.setIfInBounds_toArray, List.set_cons_zero, List.set_cons_succ])
              refine wpAnyJ_take 10 (v := ?_) (by first | exact hF | exact wideFn) HSA.out rfl (by kernel_rfl) (by kernel_rfl) (by kernel_rfl) (by kernel_rfl) rfl ?_ (fun _ _ _ h => h) ?_
              rotate_left
              · intro W hSW
                simp only [List.getElem_toArray, List.getElem_cons_zero, List.getElem_cons_succ]
                (try dsimp only at hSW)
                go_simp
                with_reducible rfl
              (try simp only [List.getElem_toArray, List.getElem_cons_zero, List.getElem_cons_succ, Act.put, List.setIfInBounds_toArray, List.set_cons_zero, List.set_cons_succ])
              refine wpAnyJ_take 11 (v := ?_) (by first | exact hF | exact wideFn) HSA.out rfl (by kernel_rfl) (by kernel_rfl) (by kernel_rfl) (by kernel_rfl) rfl ?_ (fun _ _ _ h => h) ?_
              rotate_left
              · intro W hSW
                simp only [List.getElem_toArray, List.getElem_cons_zero, List.getElem_cons_succ]
                (try dsimp only at hSW)
                go_simp
                with_reducible rfl
              (try simp only [List.getElem_toArray, List.getElem_cons_zero, List.getElem_cons_succ, Act.put, List.setIfInBounds_toArray, List.set_cons_zero, List.set_cons_succ])
              refine wpAnyJ_take 12 (v := ?_) (by first | exact hF | exact wideFn) HSA.out rfl (by kernel_rfl) (by kernel_rfl) (by kernel_rfl) (by kernel_rfl) rfl ?_ (fun _ _ _ h => h) ?_
              rotate_left
              · intro W hSW
                simp only [List.getElem_toArray, List.getElem_cons_zero, List.getElem_cons_succ]
                (try dsimp only at hSW)
                go_simp
                with_reducible rfl
              (try simp only [List.getElem_toArray, List.getElem_cons_zero, List.getElem_cons_succ, Act.put, List.setIfInBounds_toArray, List.set_cons_zero, List.set_cons_succ])
              refine wpAnyJ_take 13 (v := ?_) (by first | exact hF | exact wideFn) HSA.out rfl (by kernel_rfl) (by kernel_rfl) (by kernel_rfl) (by kernel_rfl) rfl ?_ (fun _ _ _ h => h) ?_
              rotate_left
              · intro W hSW
                simp only [List.getElem_toArray, List.getElem_cons_zero, List.getElem_cons_succ]
                (try dsimp only at hSW)
                go_simp
                with_reducible rfl
              (try simp only [List.getElem_toArray, List.getElem_cons_zero, List.getElem_cons_succ, Act.put, List.setIfInBounds_toArray, List.set_cons_zero, List.set_cons_succ])
              refine wpAnyJ_done (by kernel_rfl) ?_
              go_wp2_with fail
              have he := batsE_first (c := 9) HE0.out (show batE n ws x y k = ((9 : Nat) : Int) by rw [hbe, if_pos hd]; rfl) (by omega) m hlt
              go_ret
              exact .inl ⟨by rw [he]; decide, by rw [he]; rfl, B2.out.drew⟩
            · refine wp_region_J (fun W : World => (W.cell? ⟨b, 2, none⟩ = some (.slice (some ⟨S, 0, none⟩) n n) ∧ W.cell? ⟨wr.heap.size, 0, none⟩ = some (.int .i64 K) ∧ W.cell? ⟨wr.heap.size, 1, none⟩ = some (.int .i64 (y k))) ∧ W.cell? ⟨S, K * 7 + 1, none⟩ = some (.int .i64 (ws K).dry)) (by kernel_rfl) ?_
              refine wpAnyJ_take 0 (v := ?_) (by first | exact hF | exact wideFn) HSA.out rfl (by kernel_rfl) (by kernel_rfl) (by kernel_rfl) (by kernel_rfl) rfl ?_ (fun _ _ _ h => h) ?_
              rotate_left
              · intro W hSW
                simp only [List.getElem_toArray, List.getElem_cons_zero, List.getElem_cons_succ]
                (try dsimp only at hSW)
                go_simp
                with_reducible rfl
              (try simp only [List.getElem_toArray, List.getElem_cons_zero, List.getElem_cons_succ, Act.put, List.setIfInBounds_toArray, List.set_cons_zero, List.set_cons_succ])
              refine wpAnyJ_take 1 (v := ?_) (by first | exact hF | exact wideFn) HSA.out rfl (by kernel_rfl) (by kernel_rfl) (by kernel_rfl) (by kernel_rfl) rfl ?_ (fun _ _ _ h => h) ?_
              rotate_left
              · intro W hSW
                simp only [List.getElem_toArray, List.getElem_cons_zero, List.getElem_cons_succ]
                (try dsimp only at hSW)
                go_simp
                with_reducible rfl
              (try simp only [List.getElem_toArray, List.getElem_cons_zero, List.getElem_cons_succ, Act.put, List.setIfInBounds_toArray, List.set_cons_zero, List.set_cons_succ])
              refine wpAnyJ_take 2 (v := ?_) (by first | exact hF | exact wideFn) HSA.out rfl (by kernel_rfl) (by kernel_rfl) (by kernel_rfl) (by kernel_rfl) rfl ?_ (fun _ _ _ h => h) ?_
              rotate_left
              · intro W hSW
                simp only [List.getElem_toArray, List.getElem_cons_zero, List.getElem_cons_succ]
                (try dsimp only at hSW)
                go_simp
                with_reducible rfl
              (try simp only [List.getElem_toArray, List.getElem_cons_zero, List.getElem_cons_succ, Act.put, List.setIfInBounds_toArray, List.set_cons_zero, List.set_cons_succ])
              refine wpAnyJ_take 3 (v := ?_) (by first | exact hF | exact wideFn) HSA.out rfl (by kernel_rfl) (by kernel_rfl) (by kernel_rfl) (by kernel_rfl) rfl ?_ (fun _ _ _ h => h) ?_
              rotate_left
              · intro W hSW
                simp only [List.getElem_toArray, List.getElem_cons_zero, List.getElem_cons_succ]
                (try dsimp only at hSW)
                go_simp
                with_reducible rfl
              (try simp only [List.getElem_toArray, List.getElem_cons_zero, List.getElem_cons_succ, Act.put, List.setIfInBounds_toArray, List.set_cons_zero, List.set_cons_succ])
              refine wpAnyJ_take 4 (v := ?_) (by first | exact hF | exact wideFn) HSA.out rfl (by kernel_rfl) (by kernel_rfl) (by kernel_rfl) (by kernel_rfl) rfl ?_ (fun _ _ _ h => h) ?_
              rotate_left
              · intro W hSW
                simp only [List.getElem_toArray, List.getElem_cons_zero, List.getElem_cons_succ]
                (try dsimp only at hSW)
                go_simp
                with_reducible rfl
              (try simp only [List.getElem_toArray, List.getElem_cons_zero, List.getElem_cons_succ, Act.put, List.setIfInBounds_toArray, List.set_cons_zero, List.set_cons_succ])
              refine wpAnyJ_take 5 (v := ?_) (by first | exact hF | exact wideFn) HSA.out rfl (by kernel_rfl) (by kernel_rfl) (by kernel_rfl) (by kernel_rfl) rfl ?_ (fun _ _ _ h => h) ?_
              rotate_left
              · intro W hSW
                simp only [List.getElem_toArray, List.getElem_cons_zero, List.getElem_cons_succ]
                (try dsimp only at hSW)
                go_simp
                with_reducible rfl
              (try simp only [List.getElem_toArray, List.getElem_cons_zero, List.getElem_cons_succ, Act.put, List.setIfInBounds_toArray, List.set_cons_zero, List.set_cons_succ])
              refine wpAnyJ_take 6 (v := ?_) (by first | exact hF | exact wideFn) HSA.out rfl (by kernel_rfl) (by kernel_rfl) (by kernel_rfl) (by kernel_rfl) rfl ?_ (fun _ _ _ h => h) ?_
              rotate_left
              · intro W hSW
                simp only [List.getElem_toArray, List.getElem_cons_zero, List.getElem_cons_succ]
                (try dsimp only at hSW)
                go_simp
                with_reducible rfl
              (try simp only [List.getElem_toArray, List.getElem_cons_zero, List.getElem_cons_succ, Act.put, List.setIfInBounds_toArray, List.set_cons_zero, List.set_cons_succ])
              refine wpAnyJ_take 7 (v := ?_) (by first | exact hF | exact wideFn) HSA.out rfl (by kernel_rfl) (by kernel_rfl) (by kernel_rfl) (by kernel_rfl) rfl ?_ (fun _ _ _ h => h) ?_
              rotate_left
              · intro W hSW
                simp only [List.getElem_toArray, List.getElem_cons_zero, List.getElem_cons_succ]
                (try dsimp only at hSW)
                go_simp
                with_reducible rfl
              (try simp only [List.getElem_toArray, List.getElem_cons_zero, List.getElem_cons_succ, Act.put, List.setIfInBounds_toArray, List.set_cons_zero, List.set_cons_succ])
              refine wpAnyJ_take 8 (v := ?_) (by first | exact hF | exact wideFn) HSA.out rfl (by kernel_rfl) (by kernel_rfl) (by kernel_rfl) (by kernel_rfl) rfl ?_ (fun _ _ _ h => h) ?_
              rotate_left
              · intro W hSW
                simp only [List.getElem_toArray, List.getElem_cons_zero, List.getElem_cons_succ]
                (try dsimp only at hSW)
                go_simp
                with_reducible rfl
              (try simp only [List.getElem_toArray, List.getElem_cons_zero, List.getElem_cons_succ, Act.put, List.setIfInBounds_toArray, List.set_cons_zero, List.set_cons_succ])
              refine wpAnyJ_take 9 (v := ?_) (by first | exact hF | exact wideFn) HSA.out rfl (by kernel_rfl) (by kernel_rfl) (by kernel_rfl) (by kernel_rfl) rfl ?_ (fun _ _ _ h => h) ?_
              rotate_left
              · intro W hSW
                simp only [List.getElem_toArray, List.getElem_cons_zero, List.getElem_cons_succ]
                (try dsimp only at hSW)
                go_simp
                with_reducible rfl
              (try simp only [List.getElem_toArray, List.getElem_cons_zero, List.getElem_cons_succ, Act.put, List.setIfInBounds_toArray, List.set_cons_zero, List.set_cons_succ])
              refine wpAnyJ_take 10 (v := ?_) (by first | exact hF | exact wideFn) HSA.out rfl (by kernel_rfl) (by kernel_rfl) (by kernel_rfl) (by kernel_rfl) rfl ?_ (fun _ _ _ h => h) ?_
              rotate_left
              · intro W hSW
                simp only [List.getElem_toArray, List.getElem_cons_zero, List.getElem_cons_succ]
                (try dsimp only at hSW)
                go_simp
                with_reducible rfl
              (try simp only [List.getElem_toArray, List.getElem_cons_zero, List.getElem_cons_succ, Act.put, List.setIfInBounds_toArray, List.set_cons_zero, List.set_cons_succ])
              refine wpAnyJ_take 11 (v := ?_) (by first | exact hF | exact wideFn) HSA.out rfl (by kernel_rfl) (by kernel_rfl) (by kernel_rfl) (by kernel_rfl) rfl ?_ (fun _ _ _ h => h) ?_
              rotate_left
              · intro W hSW
                simp only [List.getElem_toArray, List.getElem_cons_zero, List.getElem_cons_succ]
                (try dsimp only at hSW)
                go_simp
                with_reducible rfl
              (try simp only [List.getElem_toArray, List.getElem_cons_zero, List.getElem_cons_succ, Act.put, List.setIfInBounds_toArray, List.set_cons_zero, List.set_cons_succ])
              refine wpAnyJ_take 12 (v := ?_) (by first | exact hF | exact wideFn) HSA.out rfl (by kernel_rfl) (by kernel_rfl) (by kernel_rfl) (by kernel_rfl) rfl ?_ (fun _ _ _ h => h) ?_
              rotate_left
              · intro W hSW
                simp only [List.getElem_toArray, List.getElem_cons_zero, List.getElem_cons_succ]
                (try dsimp only at hSW)
                go_simp
                with_reducible rfl
              (try simp only [List.getElem_toArray, List.getElem_cons_zero, List.getElem_cons_succ, Act.put, List.setIfInBounds_toArray, List.set_cons_zero, List.set_cons_succ])
              refine wpAnyJ_take 13 (v := ?_) (by first | exact hF | exact wideFn) HSA.out rfl (by kernel_rfl) (by kernel_rfl) (by kernel_rfl) (by kernel_rfl) rfl ?_ (fun _ _ _ h => h) ?_
              rotate_left
              · intro W hSW
                simp only [List.getElem_toArray, List.getElem_cons_zero, List.getElem_cons_succ]
                (try dsimp only at hSW)
                go_simp
                with_reducible rfl
              (try simp only [List.getElem_toArray, List.getElem_cons_zero, List.getElem_cons_succ, Act.put, List.setIfInBounds_toArray, List.set_cons_zero, List.set_cons_succ])
              refine wpAnyJ_done (by kernel_rfl) ?_
              obtain ⟨w3, hrun3, hs3, hg3⟩ := seen_put (HSEEN2.out.drew) (by unfold maxLen; omega) hKi
              have zm : w.heap.size < wr.heap.size := HSEEN.out.lt
              have HS3 := hide hs3
              have B3 := hide (B2.out.drew.grown hg3 B2.out.size (fun j hj => by injection hj with hj; omega))
              have X3 := hide (X2.out.drew.grown hg3 (by intro hh; injection hh with hh; omega))
              clear hs3 hg3
              obtain ⟨eXl, eX0, eX1⟩ := bx2 X2.out
              go_wp2_with fail
              clear eXl eX0 eX1
              have HSP1 := hide (HSB.out K hKn)
              obtain ⟨p1, p2⟩ := HSP1.out
              have p3 : 0 ≤ y k * sp K := Int.mul_nonneg (by omega) (by omega)
              have p4 : y k * sp K ≤ 1000000000 * 1000 := Int.mul_le_mul hy.2 p2 (by omega) (by omega)
              obtain ⟨p5, p6⟩ := HSB2.out
              have hkk : (k : Int) * 1000000000000 ≤ 20 * 1000000000000 := Int.mul_le_mul_of_nonneg_right (by omega) (by omega)
              have Z1 := hide (show IntKind.i64.wrap (y k * sp K) = y k * sp K from IntWalk.i64_in _ (by omega))
              have Z2 := hide (show IntKind.i64.wrap (spaceTo sp x y k + y k * sp K) = spaceTo sp x y k + y k * sp K from IntWalk.i64_in _ (by omega))
              obtain ⟨sb', so', hse, hsb', hsc'⟩ := IR.at_ HSP.out hKn
              injection hse with hse
              injection hse with hs1 hs2
              subst hs1 hs2
              have HSB3 : Hid ((fun W : World => (W.cell? ⟨b, 0, none⟩ = some (.slice (some ⟨sb, soff, none⟩) n sc) ∧ W.cell? ⟨wr.heap.size, 0, none⟩ = some (.int .i64 K) ∧ W.cell? ⟨wr.heap.size, 1, none⟩ = some (.int .i64 (y k))) ∧ W.cell? ⟨sb, soff + K, none⟩ = some (.int .i64 (sp K))) w3.drew) := hide ⟨⟨(bx4 (HBK.out.ext B3.out)).2.1, (bx2 X3.out).2⟩, (B3.out.cell (p := ⟨sb, soff + K, none⟩) hsb').trans hsc'⟩
              clear hsc' HSA
              refine wp_region_J (fun W : World => (W.cell? ⟨b, 0, none⟩ = some (.slice (some ⟨sb, soff, none⟩) n sc) ∧ W.cell? ⟨wr.heap.size, 0, none⟩ = some (.int .i64 K) ∧ W.cell? ⟨wr.heap.size, 1, none⟩ = some (.int .i64 (y k))) ∧ W.cell? ⟨sb, soff + K, none⟩ = some (.int .i64 (sp K))) (by kernel_rfl) ?_
              refine wpAnyJ_take 0 (v := ?_) (by first | exact hF | exact wideFn) HSB3.out rfl (by kernel_rfl) (by kernel_rfl) (by kernel_rfl) (by kernel_rfl) rfl ?_ (fun _ _ _ h => h) ?_
              rotate_left
              · intro W hSW
                simp only [List.getElem_toArray, List.getElem_cons_zero, List.getElem_cons_succ]
                (try dsimp only at hSW)
                go_simp
                with_reducible rfl
              (try simp only [List.getElem_toArray, List.getElem_cons_zero, List.getElem_cons_succ, Act.put, List.setIfInBounds_toArray, List.set_cons_zero, List.set_cons_succ])
              refine wpAnyJ_take 1 (v := ?_) (by first | exact hF | exact wideFn) HSB3.out rfl (by kernel_rfl) (by kernel_rfl) (by kernel_rfl) (by kernel_rfl) rfl ?_ (fun _ _ _ h => h) ?_
              rotate_left
              · intro W hSW
                simp only [List.getElem_toArray, List.getElem_cons_zero, List.getElem_cons_succ]
                (try dsimp only at hSW)
                go_simp
                with_reducible rfl
              (try simp only [List.getElem_toArray, List.getElem_cons_zero, List.getElem_cons_succ, Act.put, List.setIfInBounds_toArray, List.set_cons_zero, List.set_cons_succ])
              refine wpAnyJ_take 2 (v := ?_) (by first | exact hF | exact wideFn) HSB3.out rfl (by kernel_rfl) (by kernel_rfl) (by kernel_rfl) (by kernel_rfl) rfl ?_ (fun _ _ _ h => h) ?_
              rotate_left
              · intro W hSW
                simp only [List.getElem_toArray, List.getElem_cons_zero, List.getElem_cons_succ]
                (try dsimp only at hSW)
                go_simp
                with_reducible rfl
              (try simp only [List.getElem_toArray, List.getElem_cons_zero, List.getElem_cons_succ, Act.put, List.setIfInBounds_toArray, List.set_cons_zero, List.set_cons_succ])
              refine wpAnyJ_take 3 (v := ?_) (by first | exact hF | exact wideFn) HSB3.out rfl (by kernel_rfl) (by kernel_rfl) (by kernel_rfl) (by kernel_rfl) rfl ?_ (fun _ _ _ h => h) ?_
              rotate_left
              · intro W hSW
                simp only [List.getElem_toArray, List.getElem_cons_zero, List.getElem_cons_succ]
                (try dsimp only at hSW)
                go_simp
                with_reducible rfl
              (try simp only [List.getElem_toArray, List.getElem_cons_zero, List.getElem_cons_succ, Act.put, List.setIfInBounds_toArray, List.set_cons_zero, List.set_cons_succ])
              refine wpAnyJ_take 4 (v := ?_) (by first | exact hF | exact wideFn) HSB3.out rfl (by kernel_rfl) (by kernel_rfl) (by kernel_rfl) (by kernel_rfl) rfl ?_ (fun _ _ _ h => h) ?_
              rotate_left
              · intro W hSW
                simp only [List.getElem_toArray, List.getElem_cons_zero, List.getElem_cons_succ]
                (try dsimp only at hSW)
                go_simp
                with_reducible rfl
              (try simp only [List.getElem_toArray, List.getElem_cons_zero, List.getElem_cons_succ, Act.put, List.setIfInBounds_toArray, List.set_cons_zero, List.set_cons_succ])
              refine wpAnyJ_take 5 (v := ?_) (by first | exact hF | exact wideFn) HSB3.out rfl (by kernel_rfl) (by kernel_rfl) (by kernel_rfl) (by kernel_rfl) rfl ?_ (fun _ _ _ h => h) ?_
              rotate_left
              · intro W hSW
                simp only [List.getElem_toArray, List.getElem_cons_zero, List.getElem_cons_succ]
                (try dsimp only at hSW)
                go_simp
                with_reducible rfl
              (try simp only [List.getElem_toArray, List.getElem_cons_zero, List.getElem_cons_succ, Act.put, List.setIfInBounds_toArray, List.set_cons_zero, List.set_cons_succ])
              refine wpAnyJ_take 6 (v := ?_) (by first | exact hF | exact wideFn) HSB3.out rfl (by kernel_rfl) (by kernel_rfl) (by kernel_rfl) (by kernel_rfl) rfl ?_ (fun _ _ _ h => h) ?_
              rotate_left
              · intro W hSW
                simp only [List.getElem_toArray, List.getElem_cons_zero, List.getElem_cons_succ]
                (try dsimp only at hSW)
                go_simp
                with_reducible rfl
              (try simp only [List.getElem_toArray, List.getElem_cons_zero, List.getElem_cons_succ, Act.put, List.setIfInBounds_toArray, List.set_cons_zero, List.set_cons_succ])
              refine wpAnyJ_take 7 (v := ?_) (by first | exact hF | exact wideFn) HSB3.out rfl (by kernel_rfl) (by kernel_rfl) (by kernel_rfl) (by kernel_rfl) rfl ?_ (fun _ _ _ h => h) ?_
              rotate_left
              · intro W hSW
                simp only [List.getElem_toArray, List.getElem_cons_zero, List.getElem_cons_succ]
                (try dsimp only at hSW)
                go_simp
                with_reducible rfl
              (try simp only [List.getElem_toArray, List.getElem_cons_zero, List.getElem_cons_succ, Act.put, List.setIfInBounds_toArray, List.set_cons_zero, List.set_cons_succ])
              refine wpAnyJ_take 8 (v := ?_) (by first | exact hF | exact wideFn) HSB3.out rfl (by kernel_rfl) (by kernel_rfl) (by kernel_rfl) (by kernel_rfl) rfl ?_ (fun _ _ _ h => h) ?_
              rotate_left
              · intro W hSW
                simp only [List.getElem_toArray, List.getElem_cons_zero, List.getElem_cons_succ]
                (try dsimp only at hSW)
                go_simp
                with_reducible rfl
              (try simp only [List.getElem_toArray, List.getElem_cons_zero, List.getElem_cons_succ, Act.put, List.setIfInBounds_toArray, List.set_cons_zero, List.set_cons_succ])
              refine wpAnyJ_take 9 (v := ?_) (by first | exact hF | exact wideFn) HSB3.out rfl (by kernel_rfl) (by kernel_rfl) (by kernel_rfl) (by kernel_rfl) rfl ?_ (fun _ _ _ h => h) ?_
              rotate_left
              · intro W hSW
                simp only [List.getElem_toArray, List.getElem_cons_zero, List.getElem_cons_succ]
                (try dsimp only at hSW)
                go_simp
                with_reducible rfl
              (try simp only [List.getElem_toArray, List.getElem_cons_zero, List.getElem_cons_succ, Act.put, List.setIfInBounds_toArray, List.set_cons_zero, List.set_cons_succ])
              refine wpAnyJ_take 10 (v := ?_) (by first | exact hF | exact wideFn) HSB3.out rfl (by kernel_rfl) (by kernel_rfl) (by kernel_rfl) (by kernel_rfl) rfl ?_ (fun _ _ _ h => h) ?_
              rotate_left
              · intro W hSW
                simp only [List.getElem_toArray, List.getElem_cons_zero, List.getElem_cons_succ]
                (try dsimp only at hSW)
                go_simp
                with_reducible rfl
              (try simp only [List.getElem_toArray, List.getElem_cons_zero, List.getElem_cons_succ, Act.put, List.setIfInBounds_toArray, List.set_cons_zero, List.set_cons_succ])
              refine wpAnyJ_take 11 (v := ?_) (by first | exact hF | exact wideFn) HSB3.out rfl (by kernel_rfl) (by kernel_rfl) (by kernel_rfl) (by kernel_rfl) rfl ?_ (fun _ _ _ h => h) ?_
              rotate_left
              · intro W hSW
                simp only [List.getElem_toArray, List.getElem_cons_zero, List.getElem_cons_succ]
                (try dsimp only at hSW)
                go_simp
                with_reducible rfl
              (try simp only [List.getElem_toArray, List.getElem_cons_zero, List.getElem_cons_succ, Act.put, List.setIfInBounds_toArray, List.set_cons_zero, List.set_cons_succ])
              rw [Z1.out]
              refine wpAnyJ_take 12 (v := ?_) (by first | exact hF | exact wideFn) HSB3.out rfl (by kernel_rfl) (by kernel_rfl) (by kernel_rfl) (by kernel_rfl) rfl ?_ (fun _ _ _ h => h) ?_
              rotate_left
              · intro W hSW
                simp only [List.getElem_toArray, List.getElem_cons_zero, List.getElem_cons_succ]
                (try dsimp only at hSW)
                go_simp
                with_reducible rfl
              (try simp only [List.getElem_toArray, List.getElem_cons_zero, List.getElem_cons_succ, Act.put, List.setIfInBounds_toArray, List.set_cons_zero, List.set_cons_succ])
              rw [Z2.out]
              refine wpAnyJ_take 13 (v := ?_) (by first | exact hF | exact wideFn) HSB3.out rfl (by kernel_rfl) (by kernel_rfl) (by kernel_rfl) (by kernel_rfl) rfl ?_ (fun _ _ _ h => h) ?_
              rotate_left
              · intro W hSW
                simp only [List.getElem_toArray, List.getElem_cons_zero, List.getElem_cons_succ]
                (try dsimp only at hSW)
                go_simp
                with_reducible rfl
              (try simp only [List.getElem_toArray, List.getElem_cons_zero, List.getElem_cons_succ, Act.put, List.setIfInBounds_toArray, List.set_cons_zero, List.set_cons_succ])
              refine wpAnyJ_done (by kernel_rfl) ?_
              clear HSB3
              go_wp2_with fail
              go_roundw
              case rel =>
                refine ⟨k + 1, by go_num, by omega, ?_, hide ?_, hide ?_, hide ?_, hide B3.out.drew⟩
                · show _ = Value.int .i64 (spaceTo sp x y k + y k * sp (x k).toNat)
                  rw [hK]; rfl
                · exact batsE_zero HE0.out (by rw [hbe, if_neg (by omega)])
                · show 0 ≤ spaceTo sp x y k + y k * sp (x k).toNat ∧ spaceTo sp x y k + y k * sp (x k).toNat ≤ _
                  rw [hK, Int.toNat_natCast]
                  constructor <;> (try push_cast) <;> omega
                · have hfe : (fun z => anyTo (fun j => decide (x j = z)) (k + 1)) = (fun z => decide (z = (K : Int)) || anyTo (fun j => decide (x j = z)) k) := funext fun z => by
                    show (anyTo (fun j => decide (x j = z)) k || decide (x k = z)) = _
                    rw [hK, Bool.or_comm]
                    congr 1
                    exact decide_eq_decide.2 ⟨fun h => h.symm, fun h => h.symm⟩
                  rw [hfe]
                  exact HS3.out.drew
              case measure => simp [intOf]; omega
          · rw [decide_eq_false hy]
            go_wp2_with fail
            have he := batsE_first HE0.out (show batE n ws x y k = (2 : Nat) by unfold batE; simp_all) (by omega) m hlt
            go_ret
            refine .inl ⟨by rw [he]; decide, by rw [he]; rfl, ?_⟩
            exact B2.out
        · rw [hq] at hlk
          obtain ⟨eXl, eX0, eX1⟩ := bx2 X1.out
          go_wp2_with fail
          have he := batsE_first HE0.out (show batE n ws x y k = (6 : Nat) by unfold batE; simp_all) (by omega) m hlt
          go_ret
          refine .inl ⟨by rw [he]; decide, by rw [he]; rfl, ?_⟩
          exact B1.out
      · rw [decide_eq_false hk1]
        go_wp2_with fail
        have he := batsE_first HE0.out (show batE n ws x y k = (7 : Nat) by unfold batE; simp_all) (by omega) m hlt
        go_ret
        refine .inl ⟨by rw [he]; decide, by rw [he]; rfl, ?_⟩
        exact B1.out
    · obtain rfl : k = m := by omega
      obtain ⟨g1, c0, c1, c2, c3⟩ := bx4 (HBK.out.ext HB.out)
      by_cases hroom : room < spaceTo sp x y k
      · go_wp2_with fail
        go_ret
        exact .inr (.inl ⟨HE0.out, hroom, rfl, HB.out⟩)
      · go_wp2_with fail
        clear g1 c0 c1 c2 c3
        obtain ⟨wo, rfl⟩ : ∃ wo : World, wo = wr := ⟨_, rfl⟩
        have AP := hide (Apart.of_below (S := S) (b := b) HB.out)
        have BK0 := hide (HBK.out.ext HB.out)
        have ST0 := hide (HST.out.below HB.out HST.out.lt)
        have OW0 : Hid (wo.ownsRow w.heap.size 3 1 (.slice none 0 0) 0 (cellsOf 1 0 fun j _ => .int .i64 (x j))) := hide ⟨by simp [cellsOf], .inl ⟨rfl, by simp [cellsOf]⟩⟩
        have HALL := hide (fun j hj => batE_ok (batsE_all HE0.out j hj))
        obtain ⟨i0, hi, hz0, hz1, hz2⟩ := info_parts info_int
        have HAPP := hide (fun (W : World) => @run_append_lies Try.prog W 56 56 w.heap.size 3 i0 _ 1 8 Try.underlying56 hi hz0 hz1 hz2 rfl (by omega))
        clear hi hz0 hz1 hz2
        go_loopw [93] (fun i wr => ∃ j : Nat, i = .int .i64 j ∧ j ≤ k ∧ ∃ ov, Hid (Blk wr b 148 #[.slice (some ⟨sb, soff, none⟩) n sc, .int .i64 room, .slice (some ⟨S, 0, none⟩) n n, ov]) ∧ Hid (wr.ownsRow w.heap.size 3 1 ov j (cellsOf 1 j fun j _ => .int .i64 (x j))) ∧ Hid (Stores wr S n (fireW ws x y j)) ∧ Hid (Apart w wr S b)) (fun i _ => k - (intOf i).toNat)
        case atStart => exact ⟨0, rfl, by omega, _, BK0, OW0, ST0, AP⟩
        case round =>
          obtain ⟨j, rfl, hjk, ov, BK, OW, ST, AQ⟩ := hrel
          clear BK0 OW0 ST0 AP
          by_cases hlt : j < k
          · obtain ⟨KK, hKK, hKn, hfar, y1, y2, y3⟩ := HALL.out j hlt
            have zw : w.heap.size ≤ wr.heap.size := AQ.out.2.2.2.1
            have hSl : S < w.heap.size := HST.out.lt
            have hbl : b < w.heap.size := HBK.out.lt
            obtain ⟨b', off', he, hb', hc1, hc2⟩ := PI.at_ HR.out hlt
            injection he with he
            injection he with h1 h2
            subst h1 h2
            have d1 : wr.cell? ⟨ab, aoff + j * 2, none⟩ = some (.int .i64 (x j)) := (AQ.out.cell (p := ⟨ab, aoff + j * 2, none⟩) hb' habS habb).trans hc1
            have d2 : wr.cell? ⟨ab, aoff + j * 2 + 1, none⟩ = some (.int .i64 (y j)) := (AQ.out.cell (p := ⟨ab, aoff + j * 2 + 1, none⟩) hb' habS habb).trans hc2
            rw [hKK] at d1
            have hz : ab < wr.heap.size := by omega
            have i1 : (0 : Int) ≤ (j : Int) := by omega
            have i2 : (j : Int) < (k : Int) := by omega
            have i3 : (0 : Int) ≤ (KK : Int) := by omega
            have i4 : (KK : Int) < (n : Int) := by omega
            clear hc1 hc2
            go_wp2_with fail
            clear d1 d2 hb' hz
            have X1 := hide (Blk.new wr 107 #[.int .i64 KK, .int .i64 (y j)])
            have BK1 := hide (BK.out.alloc (.cells #[.int .i64 KK, .int .i64 (y j)] 107))
            have ST1 := hide (Stores.alloc ST.out (.cells #[.int .i64 KK, .int .i64 (y j)] 107))
            have zx : wr.heap.size ≠ S := by omega
            have OW1 := hide (OW.out.alloc (.cells #[.int .i64 KK, .int .i64 (y j)] 107))
            have AQ1 := hide (AQ.out.then (World.grownBy_alloc wr (.cells #[.int .i64 KK, .int .i64 (y j)] 107) none) (fun _ h => by cases h))
            have hbS : b ≠ S := fun e => by
              obtain ⟨cs, hcs⟩ := HST.out.1
              exact HBK.out.ne_ hcs (by decide) e
            have hfw : fireW ws x y j KK = ws KK := fireW_far fun i hi => by
              obtain ⟨Ki, hKi, -⟩ := HALL.out i (by omega)
              have := hfar i hi
              rw [hKi, hKK] at this
              rw [hKi]
              omega
            have hz1 : (wr.alloc (.cells #[.int .i64 KK, .int .i64 (y j)] 107)).heap.size = wr.heap.size + 1 := by simp
            clear BK ST OW AQ HHAS HR HSP HSB HSEEN HB
            generalize hw1 : wr.alloc (.cells #[.int .i64 KK, .int .i64 (y j)] 107) = w1 at X1 BK1 ST1 OW1 AQ1 hz1 ⊢
            clear hw1
            have H29 : Hid ((fun W : World => W.cell? ⟨b, 2, none⟩ = some (.slice (some ⟨S, 0, none⟩) n n) ∧ W.cell? ⟨wr.heap.size, 0, none⟩ = some (.int .i64 KK)) w1.drew) := hide ⟨(bx4 BK1.out).2.2.2.1, (bx2 X1.out).2.1⟩
            refine wp_region_J (fun W : World => W.cell? ⟨b, 2, none⟩ = some (.slice (some ⟨S, 0, none⟩) n n) ∧ W.cell? ⟨wr.heap.size, 0, none⟩ = some (.int .i64 KK)) (by kernel_rfl) ?_
            refine wpAnyJ_take 0 (v := ?_) (by first | exact hF | exact wideFn) H29.out rfl (by kernel_rfl) (by kernel_rfl) (by kernel_rfl) (by kernel_rfl) rfl ?_ (fun _ _ _ h => h) ?_
            rotate_left
            · intro W hSW
              simp only [List.getElem_toArray, List.getElem_cons_zero, List.getElem_cons_succ]
              (try dsimp only at hSW)
              go_simp
              with_reducible rfl
            (try simp only [List.getElem_toArray, List.getElem_cons_zero, List.getElem_cons_succ, Act.put, List.setIfInBounds_toArray, List.set_cons_zero, List.set_cons_succ])
            refine wpAnyJ_take 1 (v := ?_) (by first | exact hF | exact wideFn) H29.out rfl (by kernel_rfl) (by kernel_rfl) (by kernel_rfl) (by kernel_rfl) rfl ?_ (fun _ _ _ h => h) ?_
            rotate_left
            · intro W hSW
              simp only [List.getElem_toArray, List.getElem_cons_zero, List.getElem_cons_succ]
              (try dsimp only at hSW)
              go_simp
              with_reducible rfl
            (try simp only [List.getElem_toArray, List.getElem_cons_zero, List.getElem_cons_succ, Act.put, List.setIfInBounds_toArray, List.set_cons_zero, List.set_cons_succ])
            refine wpAnyJ_take 2 (v := ?_) (by first | exact hF | exact wideFn) H29.out rfl (by kernel_rfl) (by kernel_rfl) (by kernel_rfl) (by kernel_rfl) rfl ?_ (fun _ _ _ h => h) ?_
            rotate_left
            · intro W hSW
              simp only [List.getElem_toArray, List.getElem_cons_zero, List.getElem_cons_succ]
              (try dsimp only at hSW)
              go_simp
              with_reducible rfl
            (try simp only [List.getElem_toArray, List.getElem_cons_zero, List.getElem_cons_succ, Act.put, List.setIfInBounds_toArray, List.set_cons_zero, List.set_cons_succ])
            refine wpAnyJ_take 3 (v := ?_) (by first | exact hF | exact wideFn) H29.out rfl (by kernel_rfl) (by kernel_rfl) (by kernel_rfl) (by kernel_rfl) rfl ?_ (fun _ _ _ h => h) ?_
            rotate_left
            · intro W hSW
              simp only [List.getElem_toArray, List.getElem_cons_zero, List.getElem_cons_succ]
              (try dsimp only at hSW)
              go_simp
              with_reducible rfl
            (try simp only [List.getElem_toArray, List.getElem_cons_zero, List.getElem_cons_succ, Act.put, List.setIfInBounds_toArray, List.set_cons_zero, List.set_cons_succ])
            refine wpAnyJ_take 4 (v := ?_) (by first | exact hF | exact wideFn) H29.out rfl (by kernel_rfl) (by kernel_rfl) (by kernel_rfl) (by kernel_rfl) rfl ?_ (fun _ _ _ h => h) ?_
            rotate_left
            · intro W hSW
              simp only [List.getElem_toArray, List.getElem_cons_zero, List.getElem_cons_succ]
              (try dsimp only at hSW)
              go_simp
              with_reducible rfl
            (try simp only [List.getElem_toArray, List.getElem_cons_zero, List.getElem_cons_succ, Act.put, List.setIfInBounds_toArray, List.set_cons_zero, List.set_cons_succ])
            refine wpAnyJ_take 5 (v := ?_) (by first | exact hF | exact wideFn) H29.out rfl (by kernel_rfl) (by kernel_rfl) (by kernel_rfl) (by kernel_rfl) rfl ?_ (fun _ _ _ h => h) ?_
            rotate_left
            · intro W hSW
              simp only [List.getElem_toArray, List.getElem_cons_zero, List.getElem_cons_succ]
              (try dsimp only at hSW)
              go_simp
              with_reducible rfl
            (try simp only [List.getElem_toArray, List.getElem_cons_zero, List.getElem_cons_succ, Act.put, List.setIfInBounds_toArray, List.set_cons_zero, List.set_cons_succ])
            refine wpAnyJ_take 6 (v := ?_) (by first | exact hF | exact wideFn) H29.out rfl (by kernel_rfl) (by kernel_rfl) (by kernel_rfl) (by kernel_rfl) rfl ?_ (fun _ _ _ h => h) ?_
            rotate_left
            · intro W hSW
              simp only [List.getElem_toArray, List.getElem_cons_zero, List.getElem_cons_succ]
              (try dsimp only at hSW)
              go_simp
              with_reducible rfl
            (try simp only [List.getElem_toArray, List.getElem_cons_zero, List.getElem_cons_succ, Act.put, List.setIfInBounds_toArray, List.set_cons_zero, List.set_cons_succ])
            refine wpAnyJ_take 7 (v := ?_) (by first | exact hF | exact wideFn) H29.out rfl (by kernel_rfl) (by kernel_rfl) (by kernel_rfl) (by kernel_rfl) rfl ?_ (fun _ _ _ h => h) ?_
            rotate_left
            · intro W hSW
              simp only [List.getElem_toArray, List.getElem_cons_zero, List.getElem_cons_succ]
              (try dsimp only at hSW)
              go_simp
              with_reducible rfl
            (try simp only [List.getElem_toArray, List.getElem_cons_zero, List.getElem_cons_succ, Act.put, List.setIfInBounds_toArray, List.set_cons_zero, List.set_cons_succ])
            refine wpAnyJ_done (by kernel_rfl) ?_
            have HKW : KindW w1 S (KK * 7) (ws KK) := by have := ST1.out.2 KK hKn; rw [hfw] at this; exact this
            obtain ⟨-, o2, o3, -, -, -, -, o8, -⟩ := HOK.out KK hKn
            obtain ⟨o1', -, -, o4', o5', o6', -, -, -⟩ := HOK.out KK hKn
            have HM := hide (move_ok (y j) (ws KK).dry (ws KK).burning S (KK * 7 + 1) (KK * 7 + 2) w1.drew.drew HKW.2.2.2.1 HKW.2.2.2.2.1 HKW.2.1 (by omega) y3 (by omega) (by omega) o3 (by omega))
            have H30 : Hid ((fun W : World => W.cell? ⟨wr.heap.size, 1, none⟩ = some (.int .i64 (y j))) w1.drew.drew) := hide (bx2 X1.out).2.2
            have H30' : Hid (∀ W, Below w1.heap.size (mv w1 S (KK * 7 + 1) (KK * 7 + 2) ((ws KK).dry - y j) ((ws KK).burning + y j)) W → W.cell? ⟨wr.heap.size, 1, none⟩ = some (.int .i64 (y j))) := hide (fun W h => (h.cell (p := ⟨wr.heap.size, 1, none⟩) X1.out.lt).trans ((mv_far zx).trans (bx2 X1.out).2.2))
            clear HKW o2 o3 o8 o1' o4' o5' o6' H29
            go_wp2_with fail
            refine wp_region_J (fun W : World => W.cell? ⟨wr.heap.size, 1, none⟩ = some (.int .i64 (y j))) (by kernel_rfl) ?_
            refine wpAnyJ_take 0 (v := ?_) (by first | exact hF | exact wideFn) H30.out rfl (by kernel_rfl) (by kernel_rfl) (by kernel_rfl) (by kernel_rfl) rfl ?_ (fun _ _ _ h => h) ?_
            rotate_left
            · intro W hSW
              simp only [List.getElem_toArray, List.getElem_cons_zero, List.getElem_cons_succ]
              (try dsimp only at hSW)
              go_simp
              with_reducible rfl
            (try simp only [List.getElem_toArray, List.getElem_cons_zero, List.getElem_cons_succ, Act.put, List.setIfInBounds_toArray, List.set_cons_zero, List.set_cons_succ])
            refine wpAnyJ_take 1 (v := ?_) (by first | exact hF | exact wideFn) H30.out rfl (by kernel_rfl) (by kernel_rfl) (by kernel_rfl) (by kernel_rfl) rfl ?_ (fun _ _ _ h => h) ?_
            rotate_left
            · intro W hSW
              simp only [List.getElem_toArray, List.getElem_cons_zero, List.getElem_cons_succ]
              (try dsimp only at hSW)
              go_simp
              with_reducible rfl
            (try simp only [List.getElem_toArray, List.getElem_cons_zero, List.getElem_cons_succ, Act.put, List.setIfInBounds_toArray, List.set_cons_zero, List.set_cons_succ])
            refine wpAnyJ_take 2 (v := ?_) (by first | exact hF | exact wideFn) H30.out rfl (by kernel_rfl) (by kernel_rfl) (by kernel_rfl) (by kernel_rfl) rfl ?_ (fun _ _ _ h => h) ?_
            rotate_left
            · intro W hSW
              simp only [List.getElem_toArray, List.getElem_cons_zero, List.getElem_cons_succ]
              (try dsimp only at hSW)
              go_simp
              with_reducible rfl
            (try simp only [List.getElem_toArray, List.getElem_cons_zero, List.getElem_cons_succ, Act.put, List.setIfInBounds_toArray, List.set_cons_zero, List.set_cons_succ])
            refine wpAnyJ_take 3 (v := ?_) (by first | exact hF | exact wideFn) H30.out rfl (by kernel_rfl) (by kernel_rfl) (by kernel_rfl) (by kernel_rfl) rfl ?_ (fun _ _ _ h => h) ?_
            rotate_left
            · intro W hSW
              simp only [List.getElem_toArray, List.getElem_cons_zero, List.getElem_cons_succ]
              (try dsimp only at hSW)
              go_simp
              with_reducible rfl
            (try simp only [List.getElem_toArray, List.getElem_cons_zero, List.getElem_cons_succ, Act.put, List.setIfInBounds_toArray, List.set_cons_zero, List.set_cons_succ])
            refine wpAnyJ_take 4 (v := ?_) (by first | exact hF | exact wideFn) H30.out rfl (by kernel_rfl) (by kernel_rfl) (by kernel_rfl) (by kernel_rfl) rfl ?_ (fun _ _ _ h => h) ?_
            rotate_left
            · intro W hSW
              simp only [List.getElem_toArray, List.getElem_cons_zero, List.getElem_cons_succ]
              (try dsimp only at hSW)
              go_simp
              with_reducible rfl
            (try simp only [List.getElem_toArray, List.getElem_cons_zero, List.getElem_cons_succ, Act.put, List.setIfInBounds_toArray, List.set_cons_zero, List.set_cons_succ])
            refine wpAnyJ_take 5 (v := ?_) (by first | exact hF | exact wideFn) H30.out rfl (by kernel_rfl) (by kernel_rfl) (by kernel_rfl) (by kernel_rfl) rfl ?_ (fun _ _ _ h => h) ?_
            rotate_left
            · intro W hSW
              simp only [List.getElem_toArray, List.getElem_cons_zero, List.getElem_cons_succ]
              (try dsimp only at hSW)
              go_simp
              with_reducible rfl
            (try simp only [List.getElem_toArray, List.getElem_cons_zero, List.getElem_cons_succ, Act.put, List.setIfInBounds_toArray, List.set_cons_zero, List.set_cons_succ])
            refine wpAnyJ_take 6 (v := ?_) (by first | exact hF | exact wideFn) H30.out rfl (by kernel_rfl) (by kernel_rfl) (by kernel_rfl) (by kernel_rfl) rfl ?_ (fun _ _ _ h => h) ?_
            rotate_left
            · intro W hSW
              simp only [List.getElem_toArray, List.getElem_cons_zero, List.getElem_cons_succ]
              (try dsimp only at hSW)
              go_simp
              with_reducible rfl
            (try simp only [List.getElem_toArray, List.getElem_cons_zero, List.getElem_cons_succ, Act.put, List.setIfInBounds_toArray, List.set_cons_zero, List.set_cons_succ])
            refine wpAnyJ_take 7 (v := ?_) (by first | exact hF | exact wideFn) H30.out rfl (by kernel_rfl) (by kernel_rfl) (by kernel_rfl) (by kernel_rfl) rfl ?_ (fun _ _ _ h => h) ?_
            rotate_left
            · intro W hSW
              simp only [List.getElem_toArray, List.getElem_cons_zero, List.getElem_cons_succ]
              (try dsimp only at hSW)
              go_simp
              with_reducible rfl
            (try simp only [List.getElem_toArray, List.getElem_cons_zero, List.getElem_cons_succ, Act.put, List.setIfInBounds_toArray, List.set_cons_zero, List.set_cons_succ])
            refine wpAnyJ_take 8 (v := ?_) (by first | exact hF | exact wideFn) H30.out rfl (by kernel_rfl) (by kernel_rfl) (by kernel_rfl) (by kernel_rfl) rfl ?_ (fun _ _ _ h => h) ?_
            rotate_left
            · intro W hSW
              simp only [List.getElem_toArray, List.getElem_cons_zero, List.getElem_cons_succ]
              (try dsimp only at hSW)
              go_simp
              with_reducible rfl
            (try simp only [List.getElem_toArray, List.getElem_cons_zero, List.getElem_cons_succ, Act.put, List.setIfInBounds_toArray, List.set_cons_zero, List.set_cons_succ])
            refine wpAnyJ_take 9 (v := ?_) (by first | exact hF | exact wideFn) H30.out rfl (by kernel_rfl) (by kernel_rfl) (by kernel_rfl) (by kernel_rfl) rfl ?_ (fun _ _ _ h => h) ?_
            rotate_left
            · intro W hSW
              simp only [List.getElem_toArray, List.getElem_cons_zero, List.getElem_cons_succ]
              (try dsimp only at hSW)
              go_simp
              with_reducible rfl
            (try simp only [List.getElem_toArray, List.getElem_cons_zero, List.getElem_cons_succ, Act.put, List.setIfInBounds_toArray, List.set_cons_zero, List.set_cons_succ])
            refine wpAnyJ_one 10 rfl (by kernel_rfl) (fun K hK => ?_)
            simp only [List.getElem_toArray, List.getElem_cons_zero, List.getElem_cons_succ]
            go_simp
            refine ⟨trivial, rfl, ?_⟩
            refine (callsIn_wide.2 HM.out).mono ?_
            rintro e w2 ⟨rfl, hb2⟩
            have hb2' : Below w1.heap.size (mv w1 S (KK * 7 + 1) (KK * 7 + 2) ((ws KK).dry - y j) ((ws KK).burning + y j)) w2 := ⟨hb2.os, hb2.tape, hb2.output, hb2.size, hb2.block⟩
            dsimp only
            refine hK.out _ _ (fun _ => H30'.out _ hb2') ?_
            clear hK K
            (try simp only [List.getElem_toArray, List.getElem_cons_zero, List.getElem_cons_succ, Act.put, List.setIfInBounds_toArray, List.set_cons_zero, List.set_cons_succ])
            refine wpAnyJ_done (by kernel_rfl) ?_
            clear hb2 HM H30 H30'
            have hf1 : (fun i => fireW ws x y (j + 1) i) = upd (upd (fireW ws x y j) KK ((fireW ws x y j KK).put 1 ((ws KK).dry - y j))) KK ((upd (fireW ws x y j) KK ((fireW ws x y j KK).put 1 ((ws KK).dry - y j)) KK).put 2 ((ws KK).burning + y j)) := by
              rw [upd_upd, upd_same]
              funext i
              show upd (fireW ws x y j) (x j).toNat _ i = _
              rw [hKK, Int.toNat_natCast, hfw]
            have hst2 : Stores (mv w1 S (KK * 7 + 1) (KK * 7 + 2) ((ws KK).dry - y j) ((ws KK).burning + y j)) S n (fireW ws x y (j + 1)) := by
              have := (ST1.out.set (k := KK) (i := 1) hKn (by omega) ((ws KK).dry - y j)).set (k := KK) (i := 2) hKn (by omega) ((ws KK).burning + y j)
              rw [← hf1] at this
              exact this
            obtain ⟨hst3, g12⟩ := turn_of (w := w1) hst2 (grownBy_setS (grownBy_setS (World.grownBy.refl w1 _) _ _) _ _) (size_mv _ _ _ _ _ _) hb2'
            have ST2 := hide hst3
            have BK2 := hide (BK1.out.grown g12 (fun e => hbS (by injection e)))
            have OW2 := hide (OW1.out.kept g12 (.inr fun e => by have := (OW1.out.lt _ e).1; omega))
            have X2 := hide (X1.out.grown g12 (fun e => zx (by injection e)))
            have AQ2 := hide (AQ1.out.then g12 (fun i h => by injection h with h; exact .inl h.symm))
            have z2 : wr.heap.size + 1 ≤ w2.heap.size := by have := g12.size; omega
            clear hb2' hst2 hst3 g12 hf1 X1 BK1 ST1 OW1 AQ1
            have A3 := hide (Blk.new w2.drew 3 #[.int .i64 (KK : Int)])
            obtain ⟨g, cap, w3, hrun3, hown3, hg3, hgor, hlt3⟩ := HAPP.out (w2.drew.alloc (.cells #[.int .i64 KK] 3)) ov j (cellsOf 1 j fun j _ => .int .i64 (x j)) (OW2.out.alloc _) ⟨w2.drew.heap.size, 0, none⟩ 1 1 [.int .i64 (KK : Int)] rfl
              (fun i u hu => by
                match i, hu with
                | 0, hu => have := (bx1 A3.out).2; simp at hu; subst hu; simpa [Addr.add] using this
                | i + 1, hu => simp at hu)
              (fun u hu => by simp at hu; subst hu; rfl) (by omega) (by unfold maxLen; omega) (by omega) (by simp; omega) _ rfl
            have hown4 : w3.ownsRow w.heap.size 3 1 (.slice (some ⟨g, 0, none⟩) (j + 1) cap) (j + 1) (cellsOf 1 (j + 1) fun j _ => .int .i64 (x j)) := by
              have e : cellsOf 1 (j + 1) (fun j _ => Value.int .i64 (x j)) = cellsOf 1 j (fun j _ => Value.int .i64 (x j)) ++ [Value.int .i64 (KK : Int)] := by
                simp [cellsOf, List.range_succ, hKK]
              rw [e]; exact hown3
            have zo : ∀ i, ov.ownBlock = some i → w.heap.size ≤ i := fun i hi => (OW2.out.lt _ hi).1
            have zg : w.heap.size ≤ g := by
              rcases hgor with h | h
              · exact zo _ h
              · rw [h]; simp; omega
            have BK3 := hide ((BK2.out.drew.alloc (.cells #[.int .i64 KK] 3)).grown hg3 (fun e => by have := zo _ e.symm; omega))
            have ST3 := hide (Stores.grown (Stores.alloc (w := w2.drew) (by exact ST2.out) (.cells #[.int .i64 KK] 3)) hg3 (fun e => by have := zo _ e.symm; omega))
            have AQ3 := hide (((show Apart w w2.drew S b from AQ2.out).then (World.grownBy_alloc w2.drew (.cells #[.int .i64 KK] 3) none) (fun _ h => by cases h)).then hg3 (fun i h => .inr (.inr (zo i h))))
            have gst : w3.grownBy (w3.setCell ⟨b, 3, none⟩ (.slice (some ⟨g, 0, none⟩) (j + 1) cap)) (some b) := grownBy_setS (World.grownBy.refl w3 _) _ _
            have BK4 : Hid (Blk (w3.setCell ⟨b, 3, none⟩ (.slice (some ⟨g, 0, none⟩) (j + 1) cap)) b 148 #[.slice (some ⟨sb, soff, none⟩) n sc, .int .i64 room, .slice (some ⟨S, 0, none⟩) n n, (.slice (some ⟨g, 0, none⟩) (j + 1) cap)]) := hide (BK3.out.set_ 3 _)
            have OW4 := hide (hown4.kept gst (.inr fun e => by have e' : g = b := Option.some.inj e; omega))
            have ST4 := hide (Stores.grown ST3.out gst (fun e => hbS (by injection e with e; exact e.symm)))
            have AQ4 := hide (AQ3.out.then gst (fun i h => by injection h with h; exact .inr (.inl h.symm)))
            obtain ⟨b0, b1, b2, b3, b4⟩ := bx4 BK2.out
            obtain ⟨e0, e1, e2⟩ := bx2 X2.out
            obtain ⟨f0, f1, f2, f3, f4⟩ := bx4 BK3.out
            have f5 := BK3.out.frozen 3
            clear hown3 hown4 hg3 hgor gst OW2 ST2 AQ2 A3 HAPP HALL HOK HX HBK HST
            go_wp2_with fail
            refine wp_region_J (fun _ : World => True) (by kernel_rfl) ?_
            refine wpAnyJ_take 0 (v := ?_) (by first | exact hF | exact wideFn) trivial rfl (by kernel_rfl) (by kernel_rfl) (by kernel_rfl) (by kernel_rfl) rfl ?_ (fun _ _ _ h => h) ?_
            rotate_left
            · intro W hSW
              simp only [List.getElem_toArray, List.getElem_cons_zero, List.getElem_cons_succ]
              (try dsimp only at hSW)
              go_simp
              with_reducible rfl
            (try simp only [List.getElem_toArray, List.getElem_cons_zero, List.getElem_cons_succ, Act.put, List.setIfInBounds_toArray, List.set_cons_zero, List.set_cons_succ])
            refine wpAnyJ_take 1 (v := ?_) (by first | exact hF | exact wideFn) trivial rfl (by kernel_rfl) (by kernel_rfl) (by kernel_rfl) (by kernel_rfl) rfl ?_ (fun _ _ _ h => h) ?_
            rotate_left
            · intro W hSW
              simp only [List.getElem_toArray, List.getElem_cons_zero, List.getElem_cons_succ]
              (try dsimp only at hSW)
              go_simp
              with_reducible rfl
            (try simp only [List.getElem_toArray, List.getElem_cons_zero, List.getElem_cons_succ, Act.put, List.setIfInBounds_toArray, List.set_cons_zero, List.set_cons_succ])
            refine wpAnyJ_take 2 (v := ?_) (by first | exact hF | exact wideFn) trivial rfl (by kernel_rfl) (by kernel_rfl) (by kernel_rfl) (by kernel_rfl) rfl ?_ (fun _ _ _ h => h) ?_
            rotate_left
            · intro W hSW
              simp only [List.getElem_toArray, List.getElem_cons_zero, List.getElem_cons_succ]
              (try dsimp only at hSW)
              go_simp
              with_reducible rfl
            (try simp only [List.getElem_toArray, List.getElem_cons_zero, List.getElem_cons_succ, Act.put, List.setIfInBounds_toArray, List.set_cons_zero, List.set_cons_succ])
            refine wpAnyJ_take 3 (v := ?_) (by first | exact hF | exact wideFn) trivial rfl (by kernel_rfl) (by kernel_rfl) (by kernel_rfl) (by kernel_rfl) rfl ?_ (fun _ _ _ h => h) ?_
            rotate_left
            · intro W hSW
              simp only [List.getElem_toArray, List.getElem_cons_zero, List.getElem_cons_succ]
              (try dsimp only at hSW)
              go_simp
              with_reducible rfl
            (try simp only [List.getElem_toArray, List.getElem_cons_zero, List.getElem_cons_succ, Act.put, List.setIfInBounds_toArray, List.set_cons_zero, List.set_cons_succ])
            refine wpAnyJ_take 5 (v := ?_) (by first | exact hF | exact wideFn) trivial rfl (by kernel_rfl) (by kernel_rfl) (by kernel_rfl) (by kernel_rfl) rfl ?_ (fun _ _ _ h => h) ?_
            rotate_left
            · intro W hSW
              simp only [List.getElem_toArray, List.getElem_cons_zero, List.getElem_cons_succ]
              (try dsimp only at hSW)
              go_simp
              with_reducible rfl
            (try simp only [List.getElem_toArray, List.getElem_cons_zero, List.getElem_cons_succ, Act.put, List.setIfInBounds_toArray, List.set_cons_zero, List.set_cons_succ])
            have hF : ∀ f, Fence.wide.fn f := wideFn
            refine wpAnyJ_two 4 6 rfl rfl (by kernel_rfl) (fun K hK => ?_) (fun K hK => ?_)
            · simp only [List.getElem_toArray, List.getElem_cons_zero, List.getElem_cons_succ]
              go_simp
              refine hK.out _ _ (fun _ => trivial) ?_
              clear hK K
              (try simp only [List.getElem_toArray, List.getElem_cons_zero, List.getElem_cons_succ, Act.put, List.setIfInBounds_toArray, List.set_cons_zero, List.set_cons_succ])
              refine wpAnyJ_one 6 rfl (by kernel_rfl) (fun K hK => ?_)
              simp only [List.getElem_toArray, List.getElem_cons_zero, List.getElem_cons_succ]
              go_simp
              refine hK.out _ _ (fun _ => trivial) ?_
              clear hK K
              (try simp only [List.getElem_toArray, List.getElem_cons_zero, List.getElem_cons_succ, Act.put, List.setIfInBounds_toArray, List.set_cons_zero, List.set_cons_succ])
              refine wpAnyJ_one 7 rfl (by kernel_rfl) (fun K hK => ?_)
              simp only [List.getElem_toArray, List.getElem_cons_zero, List.getElem_cons_succ]
              go_simp
              refine hK.out _ _ (fun _ => trivial) ?_
              clear hK K
              (try simp only [List.getElem_toArray, List.getElem_cons_zero, List.getElem_cons_succ, Act.put, List.setIfInBounds_toArray, List.set_cons_zero, List.set_cons_succ])
              refine wpAnyJ_one 8 rfl (by kernel_rfl) (fun K hK => ?_)
              rw [if_pos (by rfl)]
              refine wpIn_append_run (.tmp 119) (.tmp 122) 56 hF rfl rfl rfl hrun3 ?_
              refine hK.out _ _ (fun _ => trivial) ?_
              clear hK K
              (try simp only [List.getElem_toArray, List.getElem_cons_zero, List.getElem_cons_succ, Act.put, List.setIfInBounds_toArray, List.set_cons_zero, List.set_cons_succ])
              refine wpAnyJ_take 9 (v := ?_) (by first | exact hF | exact wideFn) trivial rfl (by kernel_rfl) (by kernel_rfl) (by kernel_rfl) (by kernel_rfl) rfl ?_ (fun _ _ _ h => h) ?_
              rotate_left
              · intro W hSW
                simp only [List.getElem_toArray, List.getElem_cons_zero, List.getElem_cons_succ]
                (try dsimp only at hSW)
                go_simp
                with_reducible rfl
              (try simp only [List.getElem_toArray, List.getElem_cons_zero, List.getElem_cons_succ, Act.put, List.setIfInBounds_toArray, List.set_cons_zero, List.set_cons_succ])
              refine wpAnyJ_take 10 (v := ?_) (by first | exact hF | exact wideFn) trivial rfl (by kernel_rfl) (by kernel_rfl) (by kernel_rfl) (by kernel_rfl) rfl ?_ (fun _ _ _ h => h) ?_
              rotate_left
              · intro W hSW
                simp only [List.getElem_toArray, List.getElem_cons_zero, List.getElem_cons_succ]
                (try dsimp only at hSW)
                go_simp
                with_reducible rfl
              (try simp only [List.getElem_toArray, List.getElem_cons_zero, List.getElem_cons_succ, Act.put, List.setIfInBounds_toArray, List.set_cons_zero, List.set_cons_succ])
              refine wpAnyJ_one 11 rfl (by kernel_rfl) (fun K hK => ?_)
              simp only [List.getElem_toArray, List.getElem_cons_zero, List.getElem_cons_succ]
              go_simp
              refine hK.out _ _ (fun _ => trivial) ?_
              clear hK K
              (try simp only [List.getElem_toArray, List.getElem_cons_zero, List.getElem_cons_succ, Act.put, List.setIfInBounds_toArray, List.set_cons_zero, List.set_cons_succ])
              refine wpAnyJ_done (by kernel_rfl) ?_
              go_wp2_with fail
              go_roundw
              case rel => exact ⟨j + 1, by go_num, by omega, _, BK4, OW4, ST4, AQ4⟩
              case measure => simp [intOf]; omega
            · simp only [List.getElem_toArray, List.getElem_cons_zero, List.getElem_cons_succ]
              go_simp
              refine hK.out _ _ (fun _ => trivial) ?_
              clear hK K
              (try simp only [List.getElem_toArray, List.getElem_cons_zero, List.getElem_cons_succ, Act.put, List.setIfInBounds_toArray, List.set_cons_zero, List.set_cons_succ])
              refine wpAnyJ_two 4 7 rfl rfl (by kernel_rfl) (fun K hK => ?_) (fun K hK => ?_)
              · simp only [List.getElem_toArray, List.getElem_cons_zero, List.getElem_cons_succ]
                go_simp
                refine hK.out _ _ (fun _ => trivial) ?_
                clear hK K
                (try simp only [List.getElem_toArray, List.getElem_cons_zero, List.getElem_cons_succ, Act.put, List.setIfInBounds_toArray, List.set_cons_zero, List.set_cons_succ])
                refine wpAnyJ_one 7 rfl (by kernel_rfl) (fun K hK => ?_)
                simp only [List.getElem_toArray, List.getElem_cons_zero, List.getElem_cons_succ]
                go_simp
                refine hK.out _ _ (fun _ => trivial) ?_
                clear hK K
                (try simp only [List.getElem_toArray, List.getElem_cons_zero, List.getElem_cons_succ, Act.put, List.setIfInBounds_toArray, List.set_cons_zero, List.set_cons_succ])
                refine wpAnyJ_one 8 rfl (by kernel_rfl) (fun K hK => ?_)
                rw [if_pos (by rfl)]
                refine wpIn_append_run (.tmp 119) (.tmp 122) 56 hF rfl rfl rfl hrun3 ?_
                refine hK.out _ _ (fun _ => trivial) ?_
                clear hK K
                (try simp only [List.getElem_toArray, List.getElem_cons_zero, List.getElem_cons_succ, Act.put, List.setIfInBounds_toArray, List.set_cons_zero, List.set_cons_succ])
                refine wpAnyJ_take 9 (v := ?_) (by first | exact hF | exact wideFn) trivial rfl (by kernel_rfl) (by kernel_rfl) (by kernel_rfl) (by kernel_rfl) rfl ?_ (fun _ _ _ h => h) ?_
                rotate_left
                · intro W hSW
                  simp only [List.getElem_toArray, List.getElem_cons_zero, List.getElem_cons_succ]
                  (try dsimp only at hSW)
                  go_simp
                  with_reducible rfl
                (try simp only [List.getElem_toArray, List.getElem_cons_zero, List.getElem_cons_succ, Act.put, List.setIfInBounds_toArray, List.set_cons_zero, List.set_cons_succ])
                refine wpAnyJ_take 10 (v := ?_) (by first | exact hF | exact wideFn) trivial rfl (by kernel_rfl) (by kernel_rfl) (by kernel_rfl) (by kernel_rfl) rfl ?_ (fun _ _ _ h => h) ?_
                rotate_left
                · intro W hSW
                  simp only [List.getElem_toArray, List.getElem_cons_zero, List.getElem_cons_succ]
                  (try dsimp only at hSW)
                  go_simp
                  with_reducible rfl
                (try simp only [List.getElem_toArray, List.getElem_cons_zero, List.getElem_cons_succ, Act.put, List.setIfInBounds_toArray, List.set_cons_zero, List.set_cons_succ])
                refine wpAnyJ_one 11 rfl (by kernel_rfl) (fun K hK => ?_)
                simp only [List.getElem_toArray, List.getElem_cons_zero, List.getElem_cons_succ]
                go_simp
                refine hK.out _ _ (fun _ => trivial) ?_
                clear hK K
                (try simp only [List.getElem_toArray, List.getElem_cons_zero, List.getElem_cons_succ, Act.put, List.setIfInBounds_toArray, List.set_cons_zero, List.set_cons_succ])
                refine wpAnyJ_done (by kernel_rfl) ?_
                go_wp2_with fail
                go_roundw
                case rel => exact ⟨j + 1, by go_num, by omega, _, BK4, OW4, ST4, AQ4⟩
                case measure => simp [intOf]; omega
              · simp only [List.getElem_toArray, List.getElem_cons_zero, List.getElem_cons_succ]
                go_simp
                refine hK.out _ _ (fun _ => trivial) ?_
                clear hK K
                (try simp only [List.getElem_toArray, List.getElem_cons_zero, List.getElem_cons_succ, Act.put, List.setIfInBounds_toArray, List.set_cons_zero, List.set_cons_succ])
                refine wpAnyJ_one 4 rfl (by kernel_rfl) (fun K hK => ?_)
                simp only [List.getElem_toArray, List.getElem_cons_zero, List.getElem_cons_succ]
                go_simp
                refine hK.out _ _ (fun _ => trivial) ?_
                clear hK K
                (try simp only [List.getElem_toArray, List.getElem_cons_zero, List.getElem_cons_succ, Act.put, List.setIfInBounds_toArray, List.set_cons_zero, List.set_cons_succ])
                refine wpAnyJ_one 8 rfl (by kernel_rfl) (fun K hK => ?_)
                rw [if_pos (by rfl)]
                refine wpIn_append_run (.tmp 119) (.tmp 122) 56 hF rfl rfl rfl hrun3 ?_
                refine hK.out _ _ (fun _ => trivial) ?_
                clear hK K
                (try simp only [List.getElem_toArray, List.getElem_cons_zero, List.getElem_cons_succ, Act.put, List.setIfInBounds_toArray, List.set_cons_zero, List.set_cons_succ])
                refine wpAnyJ_take 9 (v := ?_) (by first | exact hF | exact wideFn) trivial rfl (by kernel_rfl) (by kernel_rfl) (by kernel_rfl) (by kernel_rfl) rfl ?_ (fun _ _ _ h => h) ?_
                rotate_left
                · intro W hSW
                  simp only [List.getElem_toArray, List.getElem_cons_zero, List.getElem_cons_succ]
                  (try dsimp only at hSW)
                  go_simp
                  with_reducible rfl
                (try simp only [List.getElem_toArray, List.getElem_cons_zero, List.getElem_cons_succ, Act.put, List.setIfInBounds_toArray, List.set_cons_zero, List.set_cons_succ])
                refine wpAnyJ_take 10 (v := ?_) (by first | exact hF | exact wideFn) trivial rfl (by kernel_rfl) (by kernel_rfl) (by kernel_rfl) (by kernel_rfl) rfl ?_ (fun _ _ _ h => h) ?_
                rotate_left
                · intro W hSW
                  simp only [List.getElem_toArray, List.getElem_cons_zero, List.getElem_cons_succ]
                  (try dsimp only at hSW)
                  go_simp
                  with_reducible rfl
                (try simp only [List.getElem_toArray, List.getElem_cons_zero, List.getElem_cons_succ, Act.put, List.setIfInBounds_toArray, List.set_cons_zero, List.set_cons_succ])
                refine wpAnyJ_one 11 rfl (by kernel_rfl) (fun K hK => ?_)
                simp only [List.getElem_toArray, List.getElem_cons_zero, List.getElem_cons_succ]
                go_simp
                refine hK.out _ _ (fun _ => trivial) ?_
                clear hK K
                (try simp only [List.getElem_toArray, List.getElem_cons_zero, List.getElem_cons_succ, Act.put, List.setIfInBounds_toArray, List.set_cons_zero, List.set_cons_succ])
                refine wpAnyJ_done (by kernel_rfl) ?_
                go_wp2_with fail
                go_roundw
                case rel => exact ⟨j + 1, by go_num, by omega, _, BK4, OW4, ST4, AQ4⟩
                case measure => simp [intOf]; omega
          · obtain rfl : j = k := by omega
            go_wp2_with fail
            go_ret
            exact .inr (.inr ⟨HE0.out, by omega, rfl, _, BK.out, OW.out, ST.out, AQ.out⟩)
end Go.Proofs.Ytlhekifmkkgjlaa
