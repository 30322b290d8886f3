/- Chapter 8: is a brick crushed (the closure of Crushed). -/
import Derived.Test.YtlhekifmkkgjlaaKz
import Derived.Test.YtlhekifmkkgjlaaBoxes
set_option linter.unusedSimpArgs false
set_option linter.unusedVariables false
set_option linter.unnecessarySimpa false
namespace Go.Proofs.Ytlhekifmkkgjlaa
open Go Go.RowKit Go.Shelf
attribute [local go_sem] Oper.semAt_some
set_option maxHeartbeats 4000000
set_option maxRecDepth 100000
/-- is a brick with load x crushed, where each of n cells bears b -/
def crushB (x : Nat × Nat) (n : Nat) (b : Int) : Bool := decide ((x.1 : Int) > (n * b) * x.2)
def crushP (s : Stk) (be : Nat → Int) (t i : Nat) : Bool := crushB ((LoadsL s t).getD i (0, 1)) (cellsTo (s.cf t) i (s.cn t)).length (be t)
theorem crushed1_any (lq pq bq z3 lb lo ln lc : Nat) (BA : Option Addr) (bn bc : Nat) (be : Nat → Int) (s : Stk) (t i : Nat) (x : Nat × Nat) (w : World) (ht : t < s.nt) (hi : i < ln) (hln : ln ≤ 1000000)
    (hl : Blk w lq 64 #[.slice (some ⟨z3, 0, none⟩) s.nt s.nt]) (hp : PileB w pq s) (hb : Blk w bq 56 #[.slice BA bn bc]) (hs : StkR w w.heap.size s) (hz3 : z3 < w.heap.size) (hlb : lb < w.heap.size)
    (hrow : w.cell? ⟨z3, t, none⟩ = some (.slice (some ⟨lb, lo, none⟩) ln lc)) (hx1 : w.cell? ⟨lb, lo + i * 2, none⟩ = some (.int .i64 x.1)) (hx2 : w.cell? ⟨lb, lo + i * 2 + 1, none⟩ = some (.int .i64 x.2)) (hok : LdOk x)
    (hbe : IR w w.heap.size BA bn be) (htb : t < bn) (hbn : bn ≤ 1000000) (hb0 : 0 ≤ be t) (hb1 : be t ≤ 1000000) (hcn : s.cn t ≤ 144) :
    Calls Try.prog 68 #[.agg #[.int .i64 t, .int .i64 i], .pointer (some ⟨lq, 0, none⟩), .pointer (some ⟨pq, 0, none⟩), .pointer (some ⟨bq, 0, none⟩)] w fun e w' => e = .returned (.bool (crushB x (cellsTo (s.cf t) i (s.cn t)).length (be t))) ∧ Below w.heap.size w w' := by
  refine (callsIn_wide (n := 9)).1 ?_
  obtain ⟨F, hFw⟩ : ∃ F : Fence, F = Fence.wide := ⟨_, rfl⟩
  rw [← hFw]
  have hF : ∀ f, F.fn f := by rw [hFw]; exact fun _ => trivial
  have hro : F.round = none := by rw [hFw]; rfl
  have hwd : ∀ {n f args w R}, Calls Try.prog f args w R → CallsIn F n Try.prog f args w R := by rw [hFw]; exact fun h => callsIn_wide.2 h
  have HF := hide hFw
  clear hFw
  refine callsIn_of_wp_marks Try.func68 rfl (hF _) ?_ hro
  simp only [Try.ntmps68, List.size_toArray, List.length_cons, List.length_nil, Nat.reduceAdd, Nat.reduceSub, Array.replicate_succ, Array.replicate_zero, List.push_toArray, List.append_toArray, List.nil_append, List.cons_append]
  gi_wp2_with fail
  have HB := hide ((Below.refl w.heap.size w).alloc (Nat.le_refl _) (.cells #[.int .i64 t, .int .i64 i] 59))
  have HBR := hide (Blk.new w 59 #[.int .i64 t, .int .i64 i])
  have hz0 : (w.alloc (.cells #[.int .i64 t, .int .i64 i] 59)).heap.size = w.heap.size + 1 := by simp
  generalize (w.alloc (.cells #[.int .i64 t, .int .i64 i] 59)) = W1 at HB HBR hz0 ⊢
  have HZ := hide hz0
  generalize hb0 : w.heap.size = b0 at HBR hz0 ⊢
  have HS : Hid (∀ W, Below W1.heap.size W1 W → W.cell? ⟨lq, 0, none⟩ = some (.slice (some ⟨z3, 0, none⟩) s.nt s.nt) ∧ W.cell? ⟨b0, 0, none⟩ = some (.int .i64 t) ∧ W.cell? ⟨b0, 1, none⟩ = some (.int .i64 i) ∧ W.cell? ⟨z3, t, none⟩ = some (.slice (some ⟨lb, lo, none⟩) ln lc) ∧ W.cell? ⟨lb, lo + i * 2, none⟩ = some (.int .i64 x.1) ∧ W.cell? ⟨lb, lo + i * 2 + 1, none⟩ = some (.int .i64 x.2)) := hide (fun W h => by
    have h1 : Below w.heap.size w W := HB.out.trans (h.mono (by omega))
    obtain ⟨d1, d2, d3, -, -⟩ := blk2 (HBR.out.ext h)
    obtain ⟨e1, e2, e3⟩ := blk1 (hl.ext h1)
    exact ⟨e2, d2, d3, (h1.cell (p := ⟨z3, t, none⟩) hz3).trans hrow, (h1.cell (p := ⟨lb, lo + i * 2, none⟩) hlb).trans hx1, (h1.cell (p := ⟨lb, lo + i * 2 + 1, none⟩) hlb).trans hx2⟩)
  have i1 : (0 : Int) ≤ (t : Int) := by omega
  have i2 : (t : Int) < (s.nt : Int) := by omega
  have i3 : (0 : Int) ≤ (i : Int) := by omega
  have i4 : (i : Int) < (ln : Int) := by omega
  have HL := hide hl
  have HP := hide hp
  have HBB := hide hb
  have HSS := hide hs
  have HBE := hide hbe
  clear hl hp hb hs hbe hrow hx1 hx2 hb0
  refine wpIn_cut (fun a a' w' => ∃ g6 g7, a' = ({ tmps := #[.agg #[.int .i64 t, .int .i64 i], .pointer (some ⟨lq, 0, none⟩), .pointer (some ⟨pq, 0, none⟩), .pointer (some ⟨bq, 0, none⟩), .pointer (some ⟨b0, 0, none⟩), .bool false, .pointer (some ⟨g6, 0, none⟩), .pointer (some ⟨g7, 0, none⟩), .slice (some ⟨z3, 0, none⟩) s.nt s.nt, .pointer (some ⟨b0, 0, none⟩), .int .i64 t, .pointer (some ⟨z3, t, none⟩), .slice (some ⟨lb, lo, none⟩) ln lc, .pointer (some ⟨b0, 1, none⟩), .int .i64 i, .pointer (some ⟨lb, lo + i * 2, none⟩), .agg #[.int .i64 x.1, .int .i64 x.2], undef, undef, undef, undef, undef, undef, undef, undef, undef, undef, undef, undef, undef, undef, undef, undef, undef, undef], defers := [] } : Act) ∧ Hid (Blk w' g6 3 #[.int .i64 0]) ∧ Hid (Blk w' g7 76 #[.int .i64 x.1, .int .i64 x.2]) ∧ g6 ≠ g7 ∧ W1.heap.size ≤ g6 ∧ W1.heap.size ≤ g7 ∧ Hid (Below W1.heap.size W1 w')) ?_ ?_
  · have Bd := hide (Below.refl W1.heap.size W1).drew
    refine wpIn_region_J (fun W : World => W.cell? ⟨lq, 0, none⟩ = some (.slice (some ⟨z3, 0, none⟩) s.nt s.nt) ∧ W.cell? ⟨b0, 0, none⟩ = some (.int .i64 t) ∧ W.cell? ⟨b0, 1, none⟩ = some (.int .i64 i) ∧ W.cell? ⟨z3, t, none⟩ = some (.slice (some ⟨lb, lo, none⟩) ln lc) ∧ W.cell? ⟨lb, lo + i * 2, none⟩ = some (.int .i64 x.1) ∧ W.cell? ⟨lb, lo + i * 2 + 1, none⟩ = some (.int .i64 x.2)) (by kernel_rfl) ?_
    refine wpAnyJ_take 0 (v := ?_) (by first | exact hF | exact wideFn) (HS.out _ Bd.out) rfl (by kernel_rfl) (by kernel_rfl) (by kernel_rfl) (by kernel_rfl) rfl ?_ (by first | exact fun _ _ _ h => h | exact fun _ _ _ h => hQ2 _ _ _ _ _ h) ?_
    rotate_left
    · intro W hSW
      simp only [List.getElem_toArray, List.getElem_cons_zero, List.getElem_cons_succ]
      (try dsimp only at hSW)
      go_simp
      with_reducible rfl
    (try simp only [List.getElem_toArray, List.getElem_cons_zero, List.getElem_cons_succ, Act.put, List.setIfInBounds_toArray, List.set_cons_zero, List.set_cons_succ])
    refine wpAnyJ_take 1 (v := ?_) (by first | exact hF | exact wideFn) (HS.out _ Bd.out) rfl (by kernel_rfl) (by kernel_rfl) (by kernel_rfl) (by kernel_rfl) rfl ?_ (by first | exact fun _ _ _ h => h | exact fun _ _ _ h => hQ2 _ _ _ _ _ h) ?_
    rotate_left
    · intro W hSW
      simp only [List.getElem_toArray, List.getElem_cons_zero, List.getElem_cons_succ]
      (try dsimp only at hSW)
      go_simp
      with_reducible rfl
    (try simp only [List.getElem_toArray, List.getElem_cons_zero, List.getElem_cons_succ, Act.put, List.setIfInBounds_toArray, List.set_cons_zero, List.set_cons_succ])
    refine wpAnyJ_take 2 (v := ?_) (by first | exact hF | exact wideFn) (HS.out _ Bd.out) rfl (by kernel_rfl) (by kernel_rfl) (by kernel_rfl) (by kernel_rfl) rfl ?_ (by first | exact fun _ _ _ h => h | exact fun _ _ _ h => hQ2 _ _ _ _ _ h) ?_
    rotate_left
    · intro W hSW
      simp only [List.getElem_toArray, List.getElem_cons_zero, List.getElem_cons_succ]
      (try dsimp only at hSW)
      go_simp
      with_reducible rfl
    (try simp only [List.getElem_toArray, List.getElem_cons_zero, List.getElem_cons_succ, Act.put, List.setIfInBounds_toArray, List.set_cons_zero, List.set_cons_succ])
    refine wpAnyJ_take 3 (v := ?_) (by first | exact hF | exact wideFn) (HS.out _ Bd.out) rfl (by kernel_rfl) (by kernel_rfl) (by kernel_rfl) (by kernel_rfl) rfl ?_ (by first | exact fun _ _ _ h => h | exact fun _ _ _ h => hQ2 _ _ _ _ _ h) ?_
    rotate_left
    · intro W hSW
      simp only [List.getElem_toArray, List.getElem_cons_zero, List.getElem_cons_succ]
      (try dsimp only at hSW)
      go_simp
      with_reducible rfl
    (try simp only [List.getElem_toArray, List.getElem_cons_zero, List.getElem_cons_succ, Act.put, List.setIfInBounds_toArray, List.set_cons_zero, List.set_cons_succ])
    refine wpAnyJ_take 4 (v := ?_) (by first | exact hF | exact wideFn) (HS.out _ Bd.out) rfl (by kernel_rfl) (by kernel_rfl) (by kernel_rfl) (by kernel_rfl) rfl ?_ (by first | exact fun _ _ _ h => h | exact fun _ _ _ h => hQ2 _ _ _ _ _ h) ?_
    rotate_left
    · intro W hSW
      simp only [List.getElem_toArray, List.getElem_cons_zero, List.getElem_cons_succ]
      (try dsimp only at hSW)
      go_simp
      with_reducible rfl
    (try simp only [List.getElem_toArray, List.getElem_cons_zero, List.getElem_cons_succ, Act.put, List.setIfInBounds_toArray, List.set_cons_zero, List.set_cons_succ])
    refine wpAnyJ_take 5 (v := ?_) (by first | exact hF | exact wideFn) (HS.out _ Bd.out) rfl (by kernel_rfl) (by kernel_rfl) (by kernel_rfl) (by kernel_rfl) rfl ?_ (by first | exact fun _ _ _ h => h | exact fun _ _ _ h => hQ2 _ _ _ _ _ h) ?_
    rotate_left
    · intro W hSW
      simp only [List.getElem_toArray, List.getElem_cons_zero, List.getElem_cons_succ]
      (try dsimp only at hSW)
      go_simp
      with_reducible rfl
    (try simp only [List.getElem_toArray, List.getElem_cons_zero, List.getElem_cons_succ, Act.put, List.setIfInBounds_toArray, List.set_cons_zero, List.set_cons_succ])
    refine wpAnyJ_take 6 (v := ?_) (by first | exact hF | exact wideFn) (HS.out _ Bd.out) rfl (by kernel_rfl) (by kernel_rfl) (by kernel_rfl) (by kernel_rfl) rfl ?_ (by first | exact fun _ _ _ h => h | exact fun _ _ _ h => hQ2 _ _ _ _ _ h) ?_
    rotate_left
    · intro W hSW
      simp only [List.getElem_toArray, List.getElem_cons_zero, List.getElem_cons_succ]
      (try dsimp only at hSW)
      go_simp
      with_reducible rfl
    (try simp only [List.getElem_toArray, List.getElem_cons_zero, List.getElem_cons_succ, Act.put, List.setIfInBounds_toArray, List.set_cons_zero, List.set_cons_succ])
    refine wpAnyJ_take 7 (v := ?_) (by first | exact hF | exact wideFn) (HS.out _ Bd.out) rfl (by kernel_rfl) (by kernel_rfl) (by kernel_rfl) (by kernel_rfl) rfl ?_ (by first | exact fun _ _ _ h => h | exact fun _ _ _ h => hQ2 _ _ _ _ _ h) ?_
    rotate_left
    · intro W hSW
      simp only [List.getElem_toArray, List.getElem_cons_zero, List.getElem_cons_succ]
      (try dsimp only at hSW)
      go_simp
      with_reducible rfl
    (try simp only [List.getElem_toArray, List.getElem_cons_zero, List.getElem_cons_succ, Act.put, List.setIfInBounds_toArray, List.set_cons_zero, List.set_cons_succ])
    refine wpAnyJ_take 8 (v := ?_) (by first | exact hF | exact wideFn) (HS.out _ Bd.out) rfl (by kernel_rfl) (by kernel_rfl) (by kernel_rfl) (by kernel_rfl) rfl ?_ (by first | exact fun _ _ _ h => h | exact fun _ _ _ h => hQ2 _ _ _ _ _ h) ?_
    rotate_left
    · intro W hSW
      simp only [List.getElem_toArray, List.getElem_cons_zero, List.getElem_cons_succ]
      (try dsimp only at hSW)
      go_simp
      with_reducible rfl
    (try simp only [List.getElem_toArray, List.getElem_cons_zero, List.getElem_cons_succ, Act.put, List.setIfInBounds_toArray, List.set_cons_zero, List.set_cons_succ])
    refine wpAnyJ_two 9 10 rfl rfl (by kernel_rfl) (fun K hK => ?_) (fun K hK => ?_)
    · simp only [List.getElem_toArray, List.getElem_cons_zero, List.getElem_cons_succ]
      go_simp
      refine hK.out _ _ (fun _ => HS.out _ (Bd.out.alloc Bd.out.size _)) ?_
      clear hK K
      (try simp only [List.getElem_toArray, List.getElem_cons_zero, List.getElem_cons_succ, Act.put, List.setIfInBounds_toArray, List.set_cons_zero, List.set_cons_succ])
      refine wpAnyJ_one 10 rfl (by kernel_rfl) (fun K hK => ?_)
      simp only [List.getElem_toArray, List.getElem_cons_zero, List.getElem_cons_succ]
      go_simp
      refine hK.out _ _ (fun _ => HS.out _ ((Bd.out.alloc Bd.out.size _).alloc (by simp) _)) ?_
      clear hK K
      (try simp only [List.getElem_toArray, List.getElem_cons_zero, List.getElem_cons_succ, Act.put, List.setIfInBounds_toArray, List.set_cons_zero, List.set_cons_succ])
      have hA : Blk ((W1.alloc (.cells #[.int .i64 0] 3)).alloc (.cells #[.int .i64 0, .int .i64 0] 76)).drew (b0 + 1) 3 #[.int .i64 0] := by have h := ((Blk.new W1 3 #[.int .i64 0]).alloc (.cells #[.int .i64 0, .int .i64 0] 76)).drew; simpa [hz0] using h
      have hC : Blk ((W1.alloc (.cells #[.int .i64 0] 3)).alloc (.cells #[.int .i64 0, .int .i64 0] 76)).drew (b0 + 1 + 1) 76 #[.int .i64 0, .int .i64 0] := by have h := (by simpa [hz0] using (Blk.new (W1.alloc (.cells #[.int .i64 0] 3)) 76 #[.int .i64 0, .int .i64 0]).drew); simpa [hz0] using h
      have hBb : Below W1.heap.size W1 ((W1.alloc (.cells #[.int .i64 0] 3)).alloc (.cells #[.int .i64 0, .int .i64 0] 76)).drew := ((Below.refl W1.heap.size W1).alloc (Nat.le_refl _) _).alloc (by simp) _ |>.drew
      have HA := hide hA
      have HC := hide hC
      have HBb := hide hBb
      clear hA hC hBb
      generalize ((W1.alloc (.cells #[.int .i64 0] 3)).alloc (.cells #[.int .i64 0, .int .i64 0] 76)).drew = W2 at HA HC HBb ⊢
      obtain ⟨p1, p2, p3⟩ := blk1 HA.out
      obtain ⟨q1, q2, q3, q4, q5⟩ := blk2 HC.out
      refine wpAnyJ_one 11 rfl (by kernel_rfl) (fun K hK => ?_)
      simp only [List.getElem_toArray, List.getElem_cons_zero, List.getElem_cons_succ]
      go_simp
      refine hK.out _ _ (fun _ => HS.out _ (HBb.out.setCell (p := ⟨(b0 + 1), 0, none⟩) (by simp only [hz0]; omega) _)) ?_
      clear hK K
      (try simp only [List.getElem_toArray, List.getElem_cons_zero, List.getElem_cons_succ, Act.put, List.setIfInBounds_toArray, List.set_cons_zero, List.set_cons_succ])
      refine wpAnyJ_one 12 rfl (by kernel_rfl) (fun K hK => ?_)
      simp only [List.getElem_toArray, List.getElem_cons_zero, List.getElem_cons_succ]
      go_simp
      refine hK.out _ _ (fun h => absurd h (by rw [show lastOp _ _ _ = true from by kernel_rfl]; simp)) ?_
      clear hK K
      (try simp only [List.getElem_toArray, List.getElem_cons_zero, List.getElem_cons_succ, Act.put, List.setIfInBounds_toArray, List.set_cons_zero, List.set_cons_succ])
      refine wpAnyJ_done (by kernel_rfl) ?_
      exact ⟨(b0 + 1), (b0 + 1 + 1), rfl, hide ((HA.out.set_ 0 (.int .i64 0)).far (by simp) _ |>.far (by simp) _), hide (((HC.out.far (by simp) _).set2 (.int .i64 x.1) (.int .i64 x.2))), by omega, by omega, by omega, hide (((HBb.out.setCell (p := ⟨(b0 + 1), 0, none⟩) (by simp only [hz0]; omega) _).setCell (p := ⟨(b0 + 1 + 1), 0, none⟩) (by simp only [hz0]; omega) _).setCell (p := ⟨(b0 + 1 + 1), 1, none⟩) (by simp only [hz0]; omega) _)⟩
    · simp only [List.getElem_toArray, List.getElem_cons_zero, List.getElem_cons_succ]
      go_simp
      refine hK.out _ _ (fun _ => HS.out _ (Bd.out.alloc Bd.out.size _)) ?_
      clear hK K
      (try simp only [List.getElem_toArray, List.getElem_cons_zero, List.getElem_cons_succ, Act.put, List.setIfInBounds_toArray, List.set_cons_zero, List.set_cons_succ])
      refine wpAnyJ_one 9 rfl (by kernel_rfl) (fun K hK => ?_)
      simp only [List.getElem_toArray, List.getElem_cons_zero, List.getElem_cons_succ]
      go_simp
      refine hK.out _ _ (fun _ => HS.out _ ((Bd.out.alloc Bd.out.size _).alloc (by simp) _)) ?_
      clear hK K
      (try simp only [List.getElem_toArray, List.getElem_cons_zero, List.getElem_cons_succ, Act.put, List.setIfInBounds_toArray, List.set_cons_zero, List.set_cons_succ])
      have hA : Blk ((W1.alloc (.cells #[.int .i64 0, .int .i64 0] 76)).alloc (.cells #[.int .i64 0] 3)).drew (b0 + 1 + 1) 3 #[.int .i64 0] := by have h := (by simpa [hz0] using (Blk.new (W1.alloc (.cells #[.int .i64 0, .int .i64 0] 76)) 3 #[.int .i64 0]).drew); simpa [hz0] using h
      have hC : Blk ((W1.alloc (.cells #[.int .i64 0, .int .i64 0] 76)).alloc (.cells #[.int .i64 0] 3)).drew (b0 + 1) 76 #[.int .i64 0, .int .i64 0] := by have h := ((Blk.new W1 76 #[.int .i64 0, .int .i64 0]).alloc (.cells #[.int .i64 0] 3)).drew; simpa [hz0] using h
      have hBb : Below W1.heap.size W1 ((W1.alloc (.cells #[.int .i64 0, .int .i64 0] 76)).alloc (.cells #[.int .i64 0] 3)).drew := ((Below.refl W1.heap.size W1).alloc (Nat.le_refl _) _).alloc (by simp) _ |>.drew
      have HA := hide hA
      have HC := hide hC
      have HBb := hide hBb
      clear hA hC hBb
      generalize ((W1.alloc (.cells #[.int .i64 0, .int .i64 0] 76)).alloc (.cells #[.int .i64 0] 3)).drew = W2 at HA HC HBb ⊢
      obtain ⟨p1, p2, p3⟩ := blk1 HA.out
      obtain ⟨q1, q2, q3, q4, q5⟩ := blk2 HC.out
      refine wpAnyJ_one 11 rfl (by kernel_rfl) (fun K hK => ?_)
      simp only [List.getElem_toArray, List.getElem_cons_zero, List.getElem_cons_succ]
      go_simp
      refine hK.out _ _ (fun _ => HS.out _ (HBb.out.setCell (p := ⟨(b0 + 1 + 1), 0, none⟩) (by simp only [hz0]; omega) _)) ?_
      clear hK K
      (try simp only [List.getElem_toArray, List.getElem_cons_zero, List.getElem_cons_succ, Act.put, List.setIfInBounds_toArray, List.set_cons_zero, List.set_cons_succ])
      refine wpAnyJ_one 12 rfl (by kernel_rfl) (fun K hK => ?_)
      simp only [List.getElem_toArray, List.getElem_cons_zero, List.getElem_cons_succ]
      go_simp
      refine hK.out _ _ (fun h => absurd h (by rw [show lastOp _ _ _ = true from by kernel_rfl]; simp)) ?_
      clear hK K
      (try simp only [List.getElem_toArray, List.getElem_cons_zero, List.getElem_cons_succ, Act.put, List.setIfInBounds_toArray, List.set_cons_zero, List.set_cons_succ])
      refine wpAnyJ_done (by kernel_rfl) ?_
      exact ⟨(b0 + 1 + 1), (b0 + 1), rfl, hide ((HA.out.set_ 0 (.int .i64 0)).far (by simp) _ |>.far (by simp) _), hide (((HC.out.far (by simp) _).set2 (.int .i64 x.1) (.int .i64 x.2))), by omega, by omega, by omega, hide (((HBb.out.setCell (p := ⟨(b0 + 1 + 1), 0, none⟩) (by simp only [hz0]; omega) _).setCell (p := ⟨(b0 + 1), 0, none⟩) (by simp only [hz0]; omega) _).setCell (p := ⟨(b0 + 1), 1, none⟩) (by simp only [hz0]; omega) _)⟩
  · rintro a' w2 ⟨g6, g7, rfl, HA, HC, hne, hg6, hg7, HB2⟩
    dsimp only
    have hB3 : Below w.heap.size w w2 := HB.out.trans (HB2.out.mono (by have := HZ.out; omega))
    have HB3 := hide hB3
    have HP2 := hide (Blk.ext HP.out hB3)
    have HBR2 := hide (HBR.out.ext HB2.out)
    have HQ2 := hide (HBB.out.ext hB3)
    have hg : w.heap.size < g6 ∧ w.heap.size < g7 ∧ w.heap.size < w2.heap.size := ⟨by have := HZ.out; omega, by have := HZ.out; omega, by have := HZ.out; have := HB2.out.size; omega⟩
    obtain ⟨x0, x1, x2, x3, -, -, -⟩ := blk3 HP2.out
    obtain ⟨d1, d2, d3, -, -⟩ := blk2 HBR2.out
    clear HS HB2 hB3
    gi_wp2_with (gi_at_call 69; refine (hwd (cells_any s t i _)).mono ?_; rintro e w3 ⟨rfl, rfl⟩)
    have k3 : PileB ((w2.alloc (.cells #[.int .i64 s.wd, .int .i64 s.hg, .slice s.A s.nt s.cap] 131)).alloc (.cells #[.int .i64 t, .int .i64 i] 59)) w2.heap.size s := (Blk.new w2 _ _).alloc _
    have k4 : Blk ((w2.alloc (.cells #[.int .i64 s.wd, .int .i64 s.hg, .slice s.A s.nt s.cap] 131)).alloc (.cells #[.int .i64 t, .int .i64 i] 59)) (w2.heap.size + 1) 59 #[.int .i64 t, .int .i64 i] := by simpa using Blk.new (w2.alloc (.cells #[.int .i64 s.wd, .int .i64 s.hg, .slice s.A s.nt s.cap] 131)) 59 #[.int .i64 t, .int .i64 i]
    have k5 : ((w2.alloc (.cells #[.int .i64 s.wd, .int .i64 s.hg, .slice s.A s.nt s.cap] 131)).alloc (.cells #[.int .i64 t, .int .i64 i] 59)).heap.size = w2.heap.size + 2 := by simp
    have kB : Below w2.heap.size w2 ((w2.alloc (.cells #[.int .i64 s.wd, .int .i64 s.hg, .slice s.A s.nt s.cap] 131)).alloc (.cells #[.int .i64 t, .int .i64 i] 59)) := ((Below.refl _ _).alloc (Nat.le_refl _) _).alloc (by simp) _
    generalize ((w2.alloc (.cells #[.int .i64 s.wd, .int .i64 s.hg, .slice s.A s.nt s.cap] 131)).alloc (.cells #[.int .i64 t, .int .i64 i] 59)) = W0 at k3 k4 k5 kB ⊢
    have k6 : Below w.heap.size w W0 := HB3.out.trans (kB.mono (by omega))
    have hst := cells_stops F (9 - 1) hF hro (by omega) w2.heap.size (w2.heap.size + 1) w.heap.size t i s W0 k3 k4 (by omega) (HSS.out.below k6 (Nat.le_refl _)) ht
    have HA0 := hide (HA.out.ext kB)
    have HC0 := hide (HC.out.ext kB)
    have HQ0 := hide (HQ2.out.ext kB)
    have HBR0 := hide (HBR2.out.ext kB)
    have h67 : g6 < w2.heap.size ∧ g7 < w2.heap.size ∧ b0 < w2.heap.size ∧ bq < w.heap.size := ⟨HA.out.lt, HC.out.lt, HBR2.out.lt, HBB.out.lt⟩
    have h6b : g6 ≠ b0 := by omega
    have hW0 : w.heap.size ≤ W0.heap.size := k6.size
    refine wpIn_rangeFunc_ownF hro (by omega) (gf := 102) (lb := #[.pointer (some ⟨w2.heap.size, 0, none⟩), .pointer (some ⟨w2.heap.size + 1, 0, none⟩)]) rfl (hF _) (enters_of Try.func102 (by kernel_rfl) rfl)
      hst KpB.trans (KpB.putObj (by omega) (by omega)) (Below.refl _ _) (fun _ => rfl)
      (fun pre W => Blk W g6 3 #[.int .i64 (pre.length * be t)] ∧ Blk W g7 76 #[.int .i64 x.1, .int .i64 x.2] ∧ Blk W bq 56 #[.slice BA bn bc] ∧ Blk W b0 59 #[.int .i64 t, .int .i64 i] ∧ Blk W (w2.heap.size + 1) 59 #[.int .i64 t, .int .i64 i] ∧ Below w.heap.size w W)
      (fun _ _ _ => False) ?hI (fun _ _ _ _ _ h _ _ => h) ⟨by simpa using HA0.out, HC0.out, HQ0.out, HBR0.out, k4, k6⟩
      (fun y => { tmps := #[.agg #[.int .i64 t, .int .i64 i], .pointer (some ⟨lq, 0, none⟩), .pointer (some ⟨pq, 0, none⟩), .pointer (some ⟨bq, 0, none⟩), .pointer (some ⟨b0, 0, none⟩), .bool false, .pointer (some ⟨g6, 0, none⟩), .pointer (some ⟨g7, 0, none⟩), .slice (some ⟨z3, 0, none⟩) s.nt s.nt, .pointer (some ⟨b0, 0, none⟩), .int .i64 t, .pointer (some ⟨z3, t, none⟩), .slice (some ⟨lb, lo, none⟩) ln lc, .pointer (some ⟨b0, 1, none⟩), .int .i64 i, .pointer (some ⟨lb, lo + i * 2, none⟩), .agg #[.int .i64 x.1, .int .i64 x.2], .agg #[.int .i64 s.wd, .int .i64 s.hg, .slice s.A s.nt s.cap], .agg #[.int .i64 t, .int .i64 i], .func (.func 102) #[] #[.pointer (some ⟨w2.heap.size, 0, none⟩), .pointer (some ⟨w2.heap.size + 1, 0, none⟩)], .int .i64 y.1, undef, undef, undef, undef, undef, undef, undef, undef, undef, undef, undef, undef, undef, undef], defers := [] }) ?hassign ?hbody ?hdone ?hstop
    case hI =>
      rintro pre W W' row ⟨h1, h2, h3, h4, h5, h6⟩ hg hr
      have hr' := fun r e => (hr r e).2
      exact ⟨h1.keptN hg hr', h2.keptN hg hr', h3.keptN hg hr', h4.keptN hg hr', h5.keptN hg hr', h6.trans ⟨hg.os, hg.tape, hg.output, hg.size, fun k hk => hg.block k (by have := h6.size; omega) (fun e => by have := (hr k e.symm).1; omega)⟩⟩
    case hassign =>
      intro l y W K hK
      gi_wp2
      exact hK
    case hbody =>
      rintro l pre y W ⟨h1, h2, h3, h4, h5, h6⟩ hlt
      dsimp only
      have hlen : pre.length + 1 ≤ 144 := by
        have h2 := cellsTo_len (s.cf t) i (s.cn t)
        omega
      obtain ⟨cb, coff, rfl, hcb, hcc⟩ := (HBE.out.below h6 (Nat.le_refl _)).at_ htb
      have hm := mul_bd (a := (pre.length : Int)) (b := be t) (M := 144) (N := 1000000) (by omega) (by omega) hb0 hb1
      have hw1 : IntKind.i64.wrap ((pre.length : Int) * be t + be t) = (((pre ++ [y]).length : Nat) : Int) * be t := by
        rw [IntWalk.i64_in _ (by omega), List.length_append]
        show _ = ((pre.length + 1 : Nat) : Int) * be t
        rw [Int.natCast_add, Int.add_mul]; omega
      obtain ⟨e1, e2, e3⟩ := blk1 h1
      obtain ⟨f1, f2, f3⟩ := blk1 h3
      obtain ⟨r1, r2, r3, -, -⟩ := blk2 h4
      have hHeld : W.drew.cell? ⟨g6, 0, none⟩ = some (.int .i64 (pre.length * be t)) ∧ W.drew.cell? ⟨bq, 0, none⟩ = some (.slice (some ⟨cb, coff, none⟩) bn bc) ∧ W.drew.cell? ⟨b0, 0, none⟩ = some (.int .i64 t) ∧ W.drew.cell? ⟨cb, coff + t, none⟩ = some (.int .i64 (be t)) := ⟨e2, f2, r2, hcc⟩
      have j1 : (t : Int) < (bn : Int) := by omega
      generalize hV : (((pre ++ [y]).length : Nat) : Int) * be t = V at hw1 ⊢
      have HV := hide hV
      generalize hU : (pre.length : Int) * be t = U at hw1 hHeld h1 e2
      have P1 := hide h1
      have P2 := hide h2
      have P3 := hide h3
      have P4 := hide h4
      have P5 := hide h5
      clear hst k3 k4 k5 k6 h1 h2 h3 h4 h5 e2 f2 r2 r3 hcc hm hU hV hlt HA0 HC0 HQ0 HBR0 d1 d2 d3 x0 x1 x2 x3
      gi_wp2_with fail
      refine wpIn_region_J (fun W' : World => W'.cell? ⟨g6, 0, none⟩ = some (.int .i64 U) ∧ W'.cell? ⟨bq, 0, none⟩ = some (.slice (some ⟨cb, coff, none⟩) bn bc) ∧ W'.cell? ⟨b0, 0, none⟩ = some (.int .i64 t) ∧ W'.cell? ⟨cb, coff + t, none⟩ = some (.int .i64 (be t))) (by kernel_rfl) ?_
      refine wpAnyJ_take 0 (v := ?_) (by first | exact hF | exact wideFn) hHeld rfl (by kernel_rfl) (by kernel_rfl) (by kernel_rfl) (by kernel_rfl) rfl ?_ (by first | exact fun _ _ _ h => h | exact fun _ _ _ h => hQ2 _ _ _ _ _ h) ?_
      rotate_left
      · intro W hSW
        simp only [List.getElem_toArray, List.getElem_cons_zero, List.getElem_cons_succ]
        (try dsimp only at hSW)
        go_simp
        with_reducible rfl
      (try simp only [List.getElem_toArray, List.getElem_cons_zero, List.getElem_cons_succ, Act.put, List.setIfInBounds_toArray, List.set_cons_zero, List.set_cons_succ])
      refine wpAnyJ_take 1 (v := ?_) (by first | exact hF | exact wideFn) hHeld rfl (by kernel_rfl) (by kernel_rfl) (by kernel_rfl) (by kernel_rfl) rfl ?_ (by first | exact fun _ _ _ h => h | exact fun _ _ _ h => hQ2 _ _ _ _ _ h) ?_
      rotate_left
      · intro W hSW
        simp only [List.getElem_toArray, List.getElem_cons_zero, List.getElem_cons_succ]
        (try dsimp only at hSW)
        go_simp
        with_reducible rfl
      (try simp only [List.getElem_toArray, List.getElem_cons_zero, List.getElem_cons_succ, Act.put, List.setIfInBounds_toArray, List.set_cons_zero, List.set_cons_succ])
      refine wpAnyJ_take 2 (v := ?_) (by first | exact hF | exact wideFn) hHeld rfl (by kernel_rfl) (by kernel_rfl) (by kernel_rfl) (by kernel_rfl) rfl ?_ (by first | exact fun _ _ _ h => h | exact fun _ _ _ h => hQ2 _ _ _ _ _ h) ?_
      rotate_left
      · intro W hSW
        simp only [List.getElem_toArray, List.getElem_cons_zero, List.getElem_cons_succ]
        (try dsimp only at hSW)
        go_simp
        with_reducible rfl
      (try simp only [List.getElem_toArray, List.getElem_cons_zero, List.getElem_cons_succ, Act.put, List.setIfInBounds_toArray, List.set_cons_zero, List.set_cons_succ])
      refine wpAnyJ_take 3 (v := ?_) (by first | exact hF | exact wideFn) hHeld rfl (by kernel_rfl) (by kernel_rfl) (by kernel_rfl) (by kernel_rfl) rfl ?_ (by first | exact fun _ _ _ h => h | exact fun _ _ _ h => hQ2 _ _ _ _ _ h) ?_
      rotate_left
      · intro W hSW
        simp only [List.getElem_toArray, List.getElem_cons_zero, List.getElem_cons_succ]
        (try dsimp only at hSW)
        go_simp
        with_reducible rfl
      (try simp only [List.getElem_toArray, List.getElem_cons_zero, List.getElem_cons_succ, Act.put, List.setIfInBounds_toArray, List.set_cons_zero, List.set_cons_succ])
      refine wpAnyJ_take 4 (v := ?_) (by first | exact hF | exact wideFn) hHeld rfl (by kernel_rfl) (by kernel_rfl) (by kernel_rfl) (by kernel_rfl) rfl ?_ (by first | exact fun _ _ _ h => h | exact fun _ _ _ h => hQ2 _ _ _ _ _ h) ?_
      rotate_left
      · intro W hSW
        simp only [List.getElem_toArray, List.getElem_cons_zero, List.getElem_cons_succ]
        (try dsimp only at hSW)
        go_simp
        with_reducible rfl
      (try simp only [List.getElem_toArray, List.getElem_cons_zero, List.getElem_cons_succ, Act.put, List.setIfInBounds_toArray, List.set_cons_zero, List.set_cons_succ])
      refine wpAnyJ_take 5 (v := ?_) (by first | exact hF | exact wideFn) hHeld rfl (by kernel_rfl) (by kernel_rfl) (by kernel_rfl) (by kernel_rfl) rfl ?_ (by first | exact fun _ _ _ h => h | exact fun _ _ _ h => hQ2 _ _ _ _ _ h) ?_
      rotate_left
      · intro W hSW
        simp only [List.getElem_toArray, List.getElem_cons_zero, List.getElem_cons_succ]
        (try dsimp only at hSW)
        go_simp
        with_reducible rfl
      (try simp only [List.getElem_toArray, List.getElem_cons_zero, List.getElem_cons_succ, Act.put, List.setIfInBounds_toArray, List.set_cons_zero, List.set_cons_succ])
      refine wpAnyJ_take 6 (v := ?_) (by first | exact hF | exact wideFn) hHeld rfl (by kernel_rfl) (by kernel_rfl) (by kernel_rfl) (by kernel_rfl) rfl ?_ (by first | exact fun _ _ _ h => h | exact fun _ _ _ h => hQ2 _ _ _ _ _ h) ?_
      rotate_left
      · intro W hSW
        simp only [List.getElem_toArray, List.getElem_cons_zero, List.getElem_cons_succ]
        (try dsimp only at hSW)
        go_simp
        with_reducible rfl
      (try simp only [List.getElem_toArray, List.getElem_cons_zero, List.getElem_cons_succ, Act.put, List.setIfInBounds_toArray, List.set_cons_zero, List.set_cons_succ])
      refine wpAnyJ_one 7 rfl (by kernel_rfl) (fun K hK => ?_)
      simp only [List.getElem_toArray, List.getElem_cons_zero, List.getElem_cons_succ]
      go_simp
      refine hK.out _ _ (fun h => absurd h (by rw [show lastOp _ _ _ = true from by kernel_rfl]; simp)) ?_
      clear hK K
      (try simp only [List.getElem_toArray, List.getElem_cons_zero, List.getElem_cons_succ, Act.put, List.setIfInBounds_toArray, List.set_cons_zero, List.set_cons_succ])
      refine wpAnyJ_done (by kernel_rfl) ?_
      gi_wp2_with fail
      have hbd : Below w.heap.size W (W.drew.setCell ⟨g6, 0, none⟩ (.int .i64 V)) := ((Below.refl _ _).drew).setCell (by show w.heap.size ≤ g6; omega) _
      refine ⟨(keepsO ((Below.refl _ _).drew)).trans (KeepsOthers.setCell _ _ _), ⟨hbd, (P5.out.drew.far (p := ⟨g6, 0, none⟩) (by show w2.heap.size + 1 ≠ g6; omega) _).trans P5.out.symm⟩, ?_, P2.out.drew.far (p := ⟨g6, 0, none⟩) (Ne.symm hne) _, P3.out.drew.far (p := ⟨g6, 0, none⟩) (by show bq ≠ g6; omega) _, P4.out.drew.far (p := ⟨g6, 0, none⟩) (Ne.symm h6b) _, P5.out.drew.far (p := ⟨g6, 0, none⟩) (by show w2.heap.size + 1 ≠ g6; omega) _, h6.trans hbd⟩
      rw [HV.out]
      exact P1.out.drew.set_ 0 (.int .i64 V)
    case hdone =>
      rintro D xs W hD hxs ⟨h1, h2, h3, h4, h5, h6⟩ hK
      dsimp only
      have hlx : xs.length = (cellsTo (s.cf t) i (s.cn t)).length := by rw [← hxs, List.length_map]
      rw [hlx] at h1
      have hn144 : (cellsTo (s.cf t) i (s.cn t)).length ≤ 144 := by
        have h2 := cellsTo_len (s.cf t) i (s.cn t)
        omega
      obtain ⟨o1, o2, o3⟩ := hok
      generalize hN : (cellsTo (s.cf t) i (s.cn t)).length = N at h1 hn144
      have hm := mul_bd (a := (N : Int)) (b := be t) (M := 144) (N := 1000000) (by omega) (by omega) hb0 hb1
      have hm2 := mul_bd (a := (N : Int) * be t) (b := (x.2 : Int)) (M := 144 * 1000000) (N := 1000000000) (by omega) (by omega) (by omega) (by omega)
      have hw1 : IntKind.i64.wrap ((N : Int) * be t * x.2) = (N : Int) * be t * x.2 := IntWalk.i64_in _ (by omega)
      obtain ⟨e1, e2, e3⟩ := blk1 h1
      obtain ⟨r1, r2, r3, -, -⟩ := blk2 h2
      have HN := hide hN
      have H6 := hide h6
      clear hst k3 k4 k5 k6 h1 h2 h3 h4 h5 hlx hxs hN h6 hm hm2 HA0 HC0 HQ0 HBR0 d1 d2 d3 x0 x1 x2 x3
      gi_wp2_with fail
      refine ⟨by simp, .inl ⟨_, _, rfl, run_takeDeferred hK, ?_⟩⟩
      refine ⟨.bool (decide ((N : Int) * be t * x.2 < x.1)), by simp [results, Try.results68, go_sem], ?_⟩
      exact ⟨by rw [HN.out]; rfl, H6.out.trans (belowK_b (w := w) (Nat.le_refl _) _ D _ _ (by omega) hK rfl rfl)⟩
    case hstop =>
      rintro D c pre W hD hSp h hK
      exact h.elim
end Go.Proofs.Ytlhekifmkkgjlaa
