/- Arguments of chapter 8 opened: a stack; a list of numbers of 16 bits. -/
import Derived.Test.YtlhekifmkkgjlaaOpens2
import Derived.Test.YtlhekifmkkgjlaaOpens3
import Derived.Test.YtlhekifmkkgjlaaNd
set_option linter.unusedSimpArgs false
set_option linter.unusedVariables false
set_option linter.unnecessarySimpa false
namespace Go.Proofs.Ytlhekifmkkgjlaa
open Go Go.RowKit Go.ChangeShapes Go.WideShapes Go.ChangeAt
section
variable {H : Type} {enc : TypeId × Value → H} {r : Reach} {b0 : Nat} {W : World} {v : Value} {d : DataW H} {p : List MemPlace}
set_option maxRecDepth 100000
theorem arr3 {cs : Array Value} (h : cs.size = 3) : ∃ a b c, cs = #[a, b, c] := by
  rcases cs with ⟨l⟩
  match l, h with
  | [a, b, c], _ => exact ⟨a, b, c, rfl⟩
/-- a stack that is read, whatever its lengths -/
def StkQ (w : World) (s : Stk) : Prop := s.nt ≤ maxLen ∧ P2 w w.heap.size s.A s.nt s.u s.v ∧ ∀ k, k < s.nt → s.cn k ≤ maxLen ∧ s.wn k ≤ maxLen ∧ IR w w.heap.size (s.ca k) (s.cn k) (s.cf k) ∧ IR w w.heap.size (s.wa k) (s.wn k) (s.wf k)
theorem StkQ.loose {w : World} {s : Stk} (h : StkQ w s) : StkV w s := ⟨h.1, h.2.1, fun k hk => ⟨(h.2.2 k hk).1, (h.2.2 k hk).2.1⟩⟩
theorem StkQ.tight {w : World} {s : Stk} (h : StkQ w s) (hn : s.nt ≤ 1000000) (hm : ∀ k, k < s.nt → s.cn k ≤ 1000000 ∧ s.wn k ≤ 1000000) : StkR w w.heap.size s := ⟨hn, h.2.1, fun k hk => ⟨(hm k hk).1, (hm k hk).2, (h.2.2 k hk).2.2.1, (h.2.2 k hk).2.2.2⟩⟩
theorem open_tiers {x : DataW H × List MemPlace} {fuel : Nat} (h : DataW.trod enc Try.prog W 0 (fun _ => true) true fuel 53 [v] = some x) (hlt : ∀ y ∈ x.2, y.block < W.heap.size) (wd hg : Int) :
    ∃ s : Stk, v = .slice s.A s.nt s.cap ∧ s.wd = wd ∧ s.hg = hg ∧ StkQ W s := by
  obtain ⟨A, n, c, V, rfl, hn, hnc, hE, hV⟩ := open_cells Try.underlying53 Try.underlying72 (by kernel_rfl) (by kernel_rfl) (by decide) h hlt
  have key : ∀ i, i < n → ∃ q : (Option Addr × Nat × Nat × (Nat → Int)) × (Option Addr × Nat × Nat × (Nat → Int)), V i 0 = .slice q.1.1 q.1.2.1 q.1.2.2.1 ∧ q.1.2.1 ≤ maxLen ∧ IR W W.heap.size q.1.1 q.1.2.1 q.1.2.2.2 ∧ V i 1 = .slice q.2.1 q.2.2.1 q.2.2.2.1 ∧ q.2.2.1 ≤ maxLen ∧ IR W W.heap.size q.2.1 q.2.2.1 q.2.2.2.2 := fun i hi => by
    obtain ⟨m0, y0, g0, l0⟩ := hV i 0 _ hi rfl
    obtain ⟨m1, y1, g1, l1⟩ := hV i 1 _ hi rfl
    obtain ⟨A0, n0, c0, z0, e0, h0, -, r0, -⟩ := open_ints_c Try.underlying56 g0 l0
    obtain ⟨A1, n1, c1, z1, e1, h1, -, r1, -⟩ := open_ints_c Try.underlying56 g1 l1
    exact ⟨((A0, n0, c0, z0), (A1, n1, c1, z1)), e0, h0, r0, e1, h1, r1⟩
  obtain ⟨q, hq⟩ := Deep.choose_lt key
  refine ⟨⟨wd, hg, A, n, c, fun i => (q i).1.1, fun i => (q i).2.1, fun i => (q i).1.2.1, fun i => (q i).1.2.2.1, fun i => (q i).2.2.1, fun i => (q i).2.2.2.1, fun i => (q i).1.2.2.2, fun i => (q i).2.2.2.2⟩, rfl, rfl, rfl, hn, fun hn0 => ?_, fun k hk => ?_⟩
  · obtain ⟨b, off, hA, hb, hc⟩ := hE hn0
    refine ⟨b, off, hA, hb, fun k i hk hi => ?_⟩
    have h1 := hc k i hk hi
    obtain ⟨e0, -, -, e1, -, -⟩ := hq k hk
    rcases (by omega : i = 0 ∨ i = 1) with rfl | rfl
    · rw [e0] at h1; exact h1
    · rw [e1] at h1; exact h1
  · obtain ⟨-, l0, r0, -, l1, r1⟩ := hq k hk
    exact ⟨l0, l1, r0, r1⟩
/-- a stack -/
theorem open_stack (hval : Value.okWide Try.prog W r b0 55 v) (h : DataW.Trod enc Try.prog W 0 (fun _ => true) true 55 v d p) (hlt : ∀ x ∈ p, x.block < W.heap.size) :
    ∃ s : Stk, v = .agg #[.int .i64 s.wd, .int .i64 s.hg, .slice s.A s.nt s.cap] ∧ StkQ W s := by
  obtain ⟨cs, rfl, hsz⟩ := okWide_struct Try.underlying55 hval
  obtain ⟨a, b, c, rfl⟩ := arr3 (hsz.trans (by kernel_rfl))
  obtain ⟨fuel, h⟩ := h
  have h' : DataW.trod enc Try.prog W 0 (fun _ => true) true fuel 55 [a, b, c] = some (d, p) := h
  obtain ⟨xs, m, -, hxy, -, hxl, hf⟩ := DataW.trod_struct Try.underlying55 h'
  have g0 := hf 0 _ rfl
  have g1 := hf 1 _ rfl
  have g2 := hf 2 _ rfl
  rw [List.getElem?_eq_getElem (by rw [hxl]; decide)] at g0 g1 g2
  have k0 : DataW.trod enc Try.prog W 0 (fun _ => true) true m 3 [a] = _ := g0
  have k1 : DataW.trod enc Try.prog W 0 (fun _ => true) true m 3 [b] = _ := g1
  have k2 : DataW.trod enc Try.prog W 0 (fun _ => true) true m 53 [c] = _ := g2
  have e0 := (int_of_trod Try.underlying3 k0).1
  have e1 := (int_of_trod Try.underlying3 k1).1
  simp only [Prod.mk.injEq] at hxy
  obtain ⟨s, hv, hw, hh, hq⟩ := open_tiers k2 (fun y hy => hlt y (by
    rw [hxy.2]
    exact List.mem_flatMap.2 ⟨_, List.getElem_mem _, hy⟩)) (intOf a) (intOf b)
  exact ⟨s, by rw [hw, hh, ← hv, ← e0, ← e1], hq⟩
/-- a list of numbers of 16 bits -/
theorem open_u16s (hval : Value.okWide Try.prog W r b0 70 v) (h : DataW.Trod enc Try.prog W 0 (fun _ => true) true 70 v d p) (hlt : ∀ x ∈ p, x.block < W.heap.size) :
    ∃ (A : Option Addr) (n c : Nat) (u : Nat → Int), v = .slice A n c ∧ n ≤ maxLen ∧ ER W W.heap.size 1 A n (fun k _ => .int .u16 (u k)) ∧ ∀ k, k < n → 0 ≤ u k ∧ u k ≤ 65535 := by
  obtain ⟨fuel, h⟩ := h
  obtain ⟨A, n, c, rfl⟩ := okWide_slice Try.underlying70 hval
  rw [cells_slice] at h
  rcases Deep.open_slice1 Try.underlying70 (by kernel_rfl) h with ⟨h1, -⟩ | ⟨a, len, cap, m, n', V, D, Pl, h1, hb, hl, hm, hmm, hx, hc⟩
  · injection h1 with h1
    injection h1 with h1 h2 h3
    subst h1 h2 h3
    exact ⟨none, 0, 0, fun _ => 0, rfl, by simp [maxLen], ER.nil _ _ _ _ _, fun k hk => absurd hk (by omega)⟩
  · injection h1 with h1
    injection h1 with h1 h2 h3
    subst h1 h2 h3
    simp only [if_true] at hmm
    subst hmm
    obtain ⟨u, hu⟩ := Deep.choose_lt (fun i (hi : i < m) => u16_of_trod (W := W) Try.underlying48 (hc i hi).2)
    refine ⟨some a, n, m, u, rfl, by omega, fun hn => ?_, fun k hk => (hu k (by omega)).2⟩
    have h0 := (hc 0 (by omega)).1
    obtain ⟨b, off, spot⟩ := a
    have hsp : spot = none := by simpa [Addr.add] using World.cell?_spot h0
    subst hsp
    refine ⟨b, off, rfl, ?_, fun k i hk hi => ?_⟩
    · have hb1 := hlt (.cell b (off + 0)) (by
        rw [show p = _ from congrArg Prod.snd hx]
        exact List.mem_append_left _ (MemPlace.mem_row.2 ⟨0, by omega, rfl⟩))
      exact hb1
    · obtain rfl : i = 0 := by omega
      have h2 := (hc k (by omega)).1
      rw [add_lit', (hu k (by omega)).1] at h2
      simpa using h2
end
end Go.Proofs.Ytlhekifmkkgjlaa
