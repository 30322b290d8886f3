/- Contracts of chapter 8 on loads: no loads; the reference's lowest terms. -/
import Derived.Test.YtlhekifmkkgjlaaKo
import Derived.Laws.CopyOwn
import Derived.Deep.RegionLaw
set_option linter.unusedSimpArgs false
set_option linter.unusedVariables false
set_option linter.unnecessarySimpa false
namespace Go.Proofs.Ytlhekifmkkgjlaa
open Go Go.RowKit
set_option maxHeartbeats 1000000
theorem mul64_one (y : Nat) (w : World) (hy : y ≤ 1000000) :
    Calls Try.prog 123 #[.int .u64 1, .int .u64 y] w fun e w' => e = .returned (.tuple #[.int .u64 0, .int .u64 y]) ∧ w = w' := by
  have e1 : bits .and .u64 1 4294967295 = 1 := by decide +kernel
  have e2 : bits .and .u64 (y : Int) 4294967295 = y := by
    have h := u64_and_nat y 4294967295 (by omega) (by omega)
    rw [show (4294967295 : Nat) = 2 ^ 32 - 1 by decide, Nat.and_two_pow_sub_one_eq_mod, Nat.mod_eq_of_lt (by omega)] at h
    exact h
  have e3 : (y : Int) / 4294967296 = 0 := by omega
  have e4 : IntKind.u64.wrap (y : Int) = y := by rw [IntKind.wrap_u64]; omega
  have e5 : IntKind.u64.wrap 0 = 0 := by decide +kernel
  have e6 : bits .and .u64 0 4294967295 = 0 := by decide +kernel
  have E := hide (And.intro e1 (And.intro e2 (And.intro e3 (And.intro e4 (And.intro e5 e6)))))
  clear e1 e2 e3 e4 e5 e6
  go_enter Try.func123, Try.ntmps123
  go_wp2_with fail
  go_ret2
  obtain ⟨e1, e2, e3, e4, e5, e6⟩ := E.out
  exact ⟨by simp [e1, e2, e3, e4, e5, e6], rfl⟩
theorem mul_one (y : Nat) (w : World) (hy : y ≤ 1000000) :
    Calls Try.prog 120 #[.int .u64 1, .int .u64 y] w fun e w' => e = .returned (.tuple #[.int .u64 0, .int .u64 y]) ∧ w = w' := by
  go_enter Try.func120, Try.ntmps120
  go_wp2_with (go_at_call 123; refine (mul64_one y _ hy).mono ?_; rintro e w' ⟨rfl, rfl⟩)
  go_ret2
  exact ⟨rfl, rfl⟩
theorem info_load : (Try.prog.info? 76).map (fun i => (i.zero, i.size, i.bytes)) = some (some (.agg #[.int .i64 0, .int .i64 0]), 2, 16) := by kernel_rfl
theorem size_load : (Try.prog.info? 76).map (·.size) = some 2 := by kernel_rfl
/-- a slice of loads that owns its row -/
def LdRow (w : World) (base : Nat) (v : Value) (n : Nat) (x : Nat → Nat × Nat) : Prop := w.ownsRow base 76 2 v n (cellsOf 2 n fun k i => if i = 0 then .int .i64 (x k).1 else .int .i64 (x k).2)
theorem run_copyN {P : Program} (w : World) (dT sT ty elem : TypeId) (sz : Nat) (g o dLen dCap : Nat) (a : Addr) (sLen sCap : Nat) (cur : Array Value) (t : TypeId) (cs : List Value)
    (hu : P.underlying dT = some (.slice elem)) (hs : (P.info? elem).map (·.size) = some sz)
    (hg : w.heap[g]? = some (.cells cur t (0, 0))) (hn : cs.length = Nat.min sLen dLen * sz)
    (hsrc : ∀ j v, cs[j]? = some v → w.cell? (a.add j) = some v) (hfit : o + cs.length ≤ cur.size) (h1 : ∀ v ∈ cs, v.oneCell' = true) :
    (Builtin.copy_ #[dT, sT] ty #[.slice (some ⟨g, o, none⟩) dLen dCap, .slice (some a) sLen sCap]).run P w =
      .ok (goInt (Nat.min sLen dLen)) (w.setRow g (cur.toList.take o ++ cs ++ cur.toList.drop (o + cs.length)).toArray) := by
  have hl := run_loadCells_list (P := P) w a cs hsrc
  have hst := run_storeCells_at P g o t cs 0 cur w hg (by simpa using hfit) h1
  cases hq : P.info? elem with
  | none => simp [hq] at hs
  | some i =>
    have hi : i.size = sz := by simpa [hq] using hs
    simp [Builtin.copy_, run_underlying hu, Builtin.lenOf, Builtin.firstCells, sizeOf, typeInfo, hq, hi, ← hn, hl, hst]
theorem wpList_copyN {P : Program} {w : World} {ops : Array Oper} {rest : List Oper} {o : Oper} {a : Act} {Q : Exit → Act → World → Prop} (hgd : o.guard = none) (d s : Operand) (dT sT : TypeId)
    (ho : o.op = .call { callee := .builtin .copy, args := #[d, s], argTypes := #[dT, sT] }) (elem : TypeId) (sz : Nat) (hu : P.underlying dT = some (.slice elem)) (hsz : (P.info? elem).map (·.size) = some sz)
    (g off dLen dCap : Nat) (ad : Addr) (sLen sCap : Nat) (hd : a.eval d = .slice (some ⟨g, off, none⟩) dLen dCap) (hs : a.eval s = .slice (some ad) sLen sCap)
    (cur : List Value) (t : TypeId) (hg : w.heap[g]? = some (.cells cur.toArray t (0, 0))) (cs : List Value) (q : Nat) (hq : Nat.min sLen dLen = q) (hn : cs.length = q * sz)
    (hsrc : ∀ j v, cs[j]? = some v → w.cell? (ad.add j) = some v) (hfit : off + cs.length ≤ cur.length) (h1 : ∀ v ∈ cs, v.oneCell' = true) (B : Nat) (w0 : World) (hb : Below B w0 w) (hBg : B ≤ g)
    (h : ∀ w', Hid (w'.heap[g]? = some (.cells (splice cur off cs).toArray t (0, 0))) → Below B w0 w' → wpList P ops Q rest (a.put o.dst (goInt q)) w') :
    wpList P ops Q (o :: rest) a w := by
  refine wpList_plain hgd fun K hK => ?_
  have hrun := run_copyN (P := P) w dT sT o.type elem sz g off dLen dCap ad sLen sCap cur.toArray t cs hu hsz hg (by rw [hq]; exact hn) hsrc (by simpa using hfit) h1
  unfold Oper.wp
  rw [hq] at hrun
  simp [execOp, ho, resolve, invoke, builtin, hd, hs, hrun, Result.andThen]
  exact hK _ _ (h _ (show _ = _ by simpa [splice] using setRow_heap w g _ _ t _ hg) (below_setRow hb hBg _))
theorem step_copyN {P : Program} {ops : Array Oper} {o : Oper} {a : Act} {w : World} {K : Act → World → Prop} {Q : Exit → Act → World → Prop} {E : Prop} (hgd : o.guard = none) (d s : Operand) (dT sT : TypeId)
    (ho : o.op = .call { callee := .builtin .copy, args := #[d, s], argTypes := #[dT, sT] }) (elem : TypeId) (sz : Nat) (hu : P.underlying dT = some (.slice elem)) (hsz : (P.info? elem).map (·.size) = some sz)
    (g off dLen dCap : Nat) (ad : Addr) (sLen sCap : Nat) (hd : a.eval d = .slice (some ⟨g, off, none⟩) dLen dCap) (hs : a.eval s = .slice (some ad) sLen sCap)
    (cur : List Value) (t : TypeId) (hg : w.heap[g]? = some (.cells cur.toArray t (0, 0))) (cs : List Value) (q : Nat) (hq : Nat.min sLen dLen = q) (hn : cs.length = q * sz)
    (hsrc : ∀ j v, cs[j]? = some v → w.cell? (ad.add j) = some v) (hfit : off + cs.length ≤ cur.length) (h1 : ∀ v ∈ cs, v.oneCell' = true) (B : Nat) (w0 : World) (hb : Below B w0 w) (hBg : B ≤ g)
    (h : ∀ w', Hid (w'.heap[g]? = some (.cells (splice cur off cs).toArray t (0, 0))) → Below B w0 w' → K (a.put o.dst (goInt q)) w') :
    if Region.wanted o (yielded ops a.tmps) = true then Oper.wp P o a w K Q else E := by
  have hw : Region.wanted o (yielded ops a.tmps) = true := by simp [Region.wanted, hgd]
  rw [if_pos hw]
  have hrun := run_copyN (P := P) w dT sT o.type elem sz g off dLen dCap ad sLen sCap cur.toArray t cs hu hsz hg (by rw [hq]; exact hn) hsrc (by simpa using hfit) h1
  unfold Oper.wp
  rw [hq] at hrun
  simp [execOp, ho, resolve, invoke, builtin, hd, hs, hrun, Result.andThen]
  exact h _ (show _ = _ by simpa [splice] using setRow_heap w g _ _ t _ hg) (below_setRow hb hBg _)
/-- the row of which the first m elements are set -/
def part (n m : Nat) : List Value := cellsOf 2 n fun k i => if i = 0 then .int .i64 0 else .int .i64 (if k < m then 1 else 0)
theorem part_len (n m : Nat) : (part n m).length = n * 2 := cellsOf_len ..
theorem part_get (n m j : Nat) (hj : j < n * 2) : (part n m)[j]? = some (.int .i64 (if j % 2 = 1 ∧ j / 2 < m then 1 else 0)) := by
  have h := cellsOf_get 2 n (fun k i => if i = 0 then Value.int .i64 0 else .int .i64 (if k < m then 1 else 0)) (j / 2) (j % 2) (by omega) (by omega)
  rw [show j / 2 * 2 + j % 2 = j by omega] at h
  rw [part, h]
  rcases Nat.mod_two_eq_zero_or_one j with e | e <;> simp [e]
theorem part_next (n m q : Nat) (hm : m ≤ n) (hq : q ≤ m) (hq2 : m + q ≤ n) : splice (part n m) (m * 2) ((part n m).take (q * 2)) = part n (m + q) := by
  apply List.ext_getElem?
  intro j
  have hl := part_len n m
  by_cases hj : j < n * 2
  · rw [part_get n (m + q) j hj]
    simp only [splice, List.getElem?_append, List.length_take, hl]
    by_cases h1 : j < m * 2
    · rw [if_pos (by omega), List.getElem?_take_of_lt h1, part_get n m j hj]
      congr 3
      simp only [eq_iff_iff]; omega
    · rw [if_neg (by omega)]
      by_cases h2 : j < m * 2 + q * 2
      · rw [if_pos (by omega), List.getElem?_take_of_lt (by omega), part_get n m _ (by omega)]
        congr 3
        simp only [eq_iff_iff]; omega
      · rw [if_neg (by omega), List.getElem?_drop, part_get n m _ (by omega)]
        congr 3
        simp only [eq_iff_iff]; omega
  · rw [List.getElem?_eq_none (by simp [splice, hl]; omega), List.getElem?_eq_none (by rw [part_len]; omega)]
theorem part_one (n m : Nat) : ∀ u ∈ part n m, u.oneCell' = true := by
  intro u hu
  obtain ⟨j, hj, e⟩ := List.getElem_of_mem hu
  have h := part_get n m j (by rw [← part_len n m]; exact hj)
  rw [List.getElem?_eq_getElem hj, e] at h
  injection h with h
  subst h; rfl
theorem part_made (n : Nat) : madeCells (Value.agg #[.int .i64 0, .int .i64 0]).cells (n * 2) = (part n 0).toArray := by
  apply Array.ext_getElem?
  intro j
  rw [show (part n 0).toArray[j]? = (part n 0)[j]? from List.getElem?_toArray ..]
  by_cases hj : j < n * 2
  · rw [part_get n 0 j hj]
    simp only [madeCells, Array.getElem?_map, Array.getElem?_range, hj, if_true, Option.map_some]
    rcases Nat.mod_two_eq_zero_or_one j with e | e <;> simp [Value.cells, e]
  · rw [List.getElem?_eq_none (l := part n 0) (by rw [part_len]; omega)]
    simp [madeCells, hj]
def RepPost (n : Nat) (w : World) (e : Ending) (w' : World) : Prop := ∃ v, e = .returned v ∧ LdRow w' w.heap.size v n (fun _ => (0, 1)) ∧ Below w.heap.size w w'
theorem part_row (w : World) (g n m : Nat) (hg : w.heap[g]? = some (.cells (part n m).toArray 76 (0, 0))) (q : Nat) :
    ∀ j v, ((part n m).take q)[j]? = some v → w.cell? ((⟨g, 0, none⟩ : Addr).add j) = some v := by
  intro j v h
  rw [List.getElem?_take] at h
  split at h
  · have hA : (⟨g, 0, none⟩ : Addr).add j = ⟨g, j, none⟩ := by unfold Addr.add; split <;> simp_all
    rw [hA]
    simp [World.cell?, hg, h]
  · simp at h
theorem part_full (n : Nat) : part n n = cellsOf 2 n fun k i => if i = 0 then .int .i64 ((((fun _ => (0, 1)) : Nat → Nat × Nat) k).1 : Nat) else .int .i64 ((((fun _ => (0, 1)) : Nat → Nat × Nat) k).2 : Nat) := by
  unfold part cellsOf
  apply List.map_congr_left
  intro j hj
  have h : j / 2 < n := by simp at hj; omega
  simp [h]
theorem part_own {w : World} {g n : Nat} (base : Nat) (hg : w.heap[g]? = some (.cells (part n n).toArray 76 (0, 0))) (hn : n ≤ 1000) (hb : base ≤ g) :
    LdRow w base (.slice (some ⟨g, 0, none⟩) n n) n (fun _ => (0, 1)) := by
  refine ⟨cellsOf_len .., .inr ⟨g, n, (part n n).toArray, rfl, hb, hg, Nat.le_refl _, Nat.le_trans hn (by decide), by simp [part_len], ?_⟩⟩
  rw [← part_full, List.take_of_length_le (by simp [part_len])]
theorem repeat_any (b n c : Nat) (w : World) (hn : n ≤ 1000) (hn0 : 1 ≤ n) (hb : Blk w b 76 #[.int .i64 0, .int .i64 1]) :
    Calls Try.prog 115 #[.slice (some ⟨b, 0, none⟩) 1 c, .int .i64 n] w (RepPost n w) := by
  obtain ⟨i0, hi, hz0, hz1, hz2⟩ := info_parts info_load
  have HM := hide (fun W : World => run_make_rowN (P := Try.prog) 65 76 i0 _ Try.underlying65 hi hz0 .i64 .i64 n n (Nat.le_refl _) (by rw [hz2]; omega) (by omega) W)
  rw [hz1, part_made] at HM
  have hb0 := hide hb
  obtain ⟨P0, hP0⟩ : ∃ P0, P0 = part n 0 := ⟨_, rfl⟩
  have HP := hide hP0
  rw [← hP0] at HM
  clear hP0 hb
  have hm1 : Nat.min 1 n = 1 := by simp [Nat.min_def]; omega
  have hB0 := hide (Blk.new w 76 P0.toArray)
  have hb1 := hide (hb0.out.alloc (.cells P0.toArray 76))
  have hm2 := hide hm1
  clear hi hz0 hz1 hz2 hm1
  go_enter Try.func115, Try.ntmps115
  go_wp2_with fail
  refine (mul_one n _ (by omega)).mono ?_
  rintro e w' ⟨rfl, rfl⟩
  have gl := HM.out w
  clear HM
  have g9 : ¬ ((9223372036854775807 : Int) < (n : Int)) := by omega
  have g8 : decide ((9223372036854775807 : Int) < (n : Int)) = false := by simp [g9]
  have g7 : IntKind.i64.wrap (n : Int) = n := by rw [IntKind.wrap_i64]; omega
  go_wp2_with (first | (refine wpList_copyN rfl (.tmp 31) (.tmp 32) _ _ rfl 76 2 Try.underlying65 size_load w.heap.size 0 n n ⟨b, 0, none⟩ 1 c rfl rfl P0 76 hB0.out [.int .i64 0, .int .i64 1] 1 hm2.out rfl ?_ ?_ ?_ w.heap.size w ?_ (Nat.le_refl _) ?_))
  · intro j v hj
    have hA : (⟨b, 0, none⟩ : Addr).add j = ⟨b, j, none⟩ := by unfold Addr.add; split <;> simp_all
    rw [hA, hb1.out.cell]
    simpa using hj
  · have := part_len n 0
    rw [HP.out, this]; simp; omega
  · intro v hv; simp at hv; rcases hv with rfl | rfl <;> rfl
  · exact (Below.refl _ _).alloc (Nat.le_refl _) _
  intro w2 hg2 hB2
  have hg3 : Hid (w2.heap[w.heap.size]? = some (.cells (part n 1).toArray 76 (0, 0))) := by
    have e : splice P0 0 [Value.int .i64 0, .int .i64 1] = part n 1 := by
      rw [HP.out]
      apply List.ext_getElem?
      intro j
      by_cases hj : j < n * 2
      · rw [part_get n 1 j hj]
        simp only [splice, List.take_zero, List.nil_append, List.getElem?_append]
        split
        · rename_i h2
          rcases (by simp at h2; omega : j = 0 ∨ j = 1) with rfl | rfl <;> simp
        · rename_i h2
          simp at h2
          have h3 : ¬ (j % 2 = 1 ∧ j / 2 < 1) := by omega
          rw [List.getElem?_drop, part_get n 0 _ (by simp; omega), if_neg h3, if_neg (by simp)]
      · rw [List.getElem?_eq_none (by simp [splice, part_len]; omega), List.getElem?_eq_none (by rw [part_len]; omega)]
    rw [← e]; exact hg2
  clear hg2 hB0 hb1 HP
  go_wp2_with fail
  go_loopw [8] (fun i wr => ∃ m : Nat, i = .int .i64 m ∧ 1 ≤ m ∧ m ≤ n ∧ Hid (wr.heap[w.heap.size]? = some (.cells (part n m).toArray 76 (0, 0))) ∧ Below w.heap.size w wr) (fun i _ => n - (intOf i).toNat)
  case atStart => exact ⟨1, rfl, Nat.le_refl _, hn0, hg3, hB2⟩
  case round =>
    obtain ⟨m, rfl, hm0, hm1, hg, hB⟩ := hrel
    rcases Nat.lt_or_ge m n with hlt | hge
    · have g1 : (m : Int) < (n : Int) := by omega
      have g2 : (0 : Int) ≤ (m : Int) := by omega
      have g3 : (m : Int) ≤ (n : Int) := by omega
      obtain ⟨q, hq⟩ : ∃ q, q = Nat.min m (n - m) := ⟨_, rfl⟩
      have hq1 : q ≤ m ∧ m + q ≤ n ∧ 0 < q := by rw [hq, show Nat.min m (n - m) = min m (n - m) from rfl, Nat.min_def]; split <;> omega
      have g4 : IntKind.i64.wrap ((m : Int) + (q : Int)) = ((m + q : Nat) : Int) := by rw [IntKind.wrap_i64]; omega
      have HQ := hide hq.symm
      have g5 : ¬ n = m := by omega
      clear hq
      go_wp2_with fail
      have hr : ∀ k, ∀ j v, ((part n m).take (q * 2))[j]? = some v → (wr.drewN k).cell? ((⟨w.heap.size, 0, none⟩ : Addr).add j) = some v := fun k => part_row (wr.drewN k) _ n m hg.out (q * 2)
      have hfit : m * 2 + ((part n m).take (q * 2)).length ≤ (part n m).length := by rw [List.length_take, part_len]; omega
      have hl : ((part n m).take (q * 2)).length = q * 2 := by rw [List.length_take, part_len]; omega
      have ho : ∀ u ∈ (part n m).take (q * 2), u.oneCell' = true := fun u hu => part_one n m u (List.mem_of_mem_take hu)
      have HR := hide (And.intro hr (And.intro hfit (And.intro hl ho)))
      clear hr hfit hl ho
      go_region_law (refine step_copyN rfl (.tmp 41) (.tmp 44) _ _ rfl 76 2 Try.underlying65 size_load w.heap.size (m * 2) (n - m) (n - m) ⟨w.heap.size, 0, none⟩ m n (by simp [Act.eval, Act.put, g5]) (by simp [Act.eval, Act.put]) (part n m) 76 hg.out ((part n m).take (q * 2)) q HQ.out HR.out.2.2.1 (HR.out.1 _) HR.out.2.1 HR.out.2.2.2 w.heap.size w (hB.trans (Below_dN (Below.refl _ _) _)) (Nat.le_refl _) ?_; intro w3 hg3 hB3)
      all_goals (
        have hg4 : Hid (w3.heap[w.heap.size]? = some (.cells (part n (m + q)).toArray 76 (0, 0))) := by
          rw [← part_next n m q hm1 hq1.1 hq1.2.1]; exact hg3
        clear HR HQ hg3 hg
        go_simp
        go_roundw
        case rel =>
          refine ⟨_, _, _, _, _, _, _, _, _, _, _, _, _, _, ?_, rfl⟩
          exact ⟨m + q, by simp, by omega, hq1.2.1, hg4, hB3⟩
        case measure => simp [intOf]; omega)
    · obtain rfl : m = n := by omega
      have g1 : ¬ (m : Int) < (m : Int) := by omega
      clear hm0 hge
      go_wp2_with fail
      go_ret
      exact ⟨_, rfl, part_own _ hg.out (by omega) (Nat.le_refl _), hB⟩
theorem nothing_any (n : Nat) (w : World) (hn : n ≤ 1000) (hn0 : 1 ≤ n) :
    Calls Try.prog 105 #[.int .i64 n] w (RepPost n w) := by
  have hb := hide (Blk.new w 76 #[.int .i64 0, .int .i64 1])
  have h2 : ∀ c, Calls Try.prog 115 #[.slice (some ⟨w.heap.size, 0, none⟩) 1 c, .int .i64 n] (w.alloc (.cells #[.int .i64 0, .int .i64 1] 76)) (RepPost n (w.alloc (.cells #[.int .i64 0, .int .i64 1] 76))) := fun c => repeat_any _ n c _ hn hn0 hb.out
  have H := hide h2
  clear h2
  go_enter Try.func105, Try.ntmps105
  go_wp2_with fail
  refine (H.out _).mono ?_
  rintro e w1 ⟨v, rfl, h1, h2⟩
  obtain ⟨g, c, rfl⟩ := own_shape h1
  go_wp2_with fail
  go_ret
  refine ⟨_, rfl, ownMono h1 (by simp), ?_⟩
  exact ((Below.refl _ _).alloc (Nat.le_refl _) _).trans (h2.mono (by simp))
end Go.Proofs.Ytlhekifmkkgjlaa
