/- The loads of a pile: small words for the walk. -/
import Derived.Test.YtlhekifmkkgjlaaKx
set_option linter.unusedSimpArgs false
set_option linter.unusedVariables false
set_option linter.unnecessarySimpa false
namespace Go.Proofs.Ytlhekifmkkgjlaa
open Go Go.RowKit Go.Shelf
set_option maxHeartbeats 400000
theorem upd_upd {α : Type} (v : Nat → α) (t : Nat) (a b : α) : upd (upd v t a) t b = upd v t b := by
  funext k; unfold upd; split <;> rfl
theorem grown_off {W W' : World} {sc : Nat} {k : Bool} (hb : Below W.heap.size (offW W sc k) W') : W.grownBy W' (some sc) := by
  have h1 : W.grownBy (offW W sc k) (some sc) := by
    unfold offW; split
    · exact World.grownBy.refl _ _
    · exact grownBy_setC W sc 0 _
  exact ⟨hb.os.trans h1.os, hb.tape.trans h1.tape, hb.output.trans h1.output, by have := hb.size; rw [size_offW] at this; exact this, fun j hj hne => (hb.block j hj).trans (h1.block j hj hne)⟩
theorem own_far {W W' : World} {base : Nat} {e : TypeId} {size k sc : Nat} {v : Value} {xs : List Value} (h : W.ownsRow base e size v k xs) (hg : W.grownBy W' (some sc)) (hs : sc < base) : W'.ownsRow base e size v k xs := by
  refine World.ownsRow.kept h hg ?_
  cases hv : v.ownBlock with
  | none => exact .inl rfl
  | some b => exact .inr (fun e => by
      have h1 := World.ownsRow.lt h b hv
      injection e with e
      omega)
theorem own_at {W : World} {base : Nat} {e : TypeId} {A : Option Addr} {n c : Nat} {xs : List Value} (h : W.ownsRow base e 1 (.slice A n c) n xs) {j : Nat} (hj : j < n) :
    ∃ g u, A = some ⟨g, 0, none⟩ ∧ base ≤ g ∧ g < W.heap.size ∧ xs[j]? = some u ∧ W.cell? ⟨g, j, none⟩ = some u := by
  obtain ⟨g, cap, hv, hb, hlt⟩ := h.form (by omega)
  have hA : A = some ⟨g, 0, none⟩ := by injection hv
  subst hA
  have hl : j < xs.length := by have := h.1; omega
  refine ⟨g, xs[j], rfl, hb, hlt, List.getElem?_eq_getElem hl, ?_⟩
  have := h.cells (g := g) rfl j _ (List.getElem?_eq_getElem hl)
  rwa [add_lit', Nat.zero_add] at this
theorem restL_lt {s : Stk} {t : Nat} {b : Int} {c : Nat} (h : c ∈ restL s t b) : c < s.cn t := by
  have h1 := (List.mem_filter.1 h).1
  have h2 := (List.mem_filter.1 h1).1
  simpa using h2
theorem layOn_take {l : List (Nat × Nat)} {cs : List Nat} {x : Nat × Nat} {j c : Nat} (h : cs[j]? = some c) : layOn l (cs.take (j + 1)) x = (layOn l (cs.take j) x).set c x := by
  obtain ⟨hj, e⟩ := List.getElem?_eq_some_iff.1 h
  rw [List.take_succ_eq_append_getElem hj, e]
  simp [layOn, List.foldl_append]
theorem tierSt_bound (s : Stk) (m M B : Nat) (hm : m ≤ M) (st : (Nat → List (Nat × Nat)) × Bool) (t : Nat) (ht : s.wn t ≤ M) (h : ∀ j, (st.1 j).length ≤ B) (hB : M ≤ B + M) (j : Nat) : ((tierSt s m st t).1 j).length ≤ B + M := by
  show (upd (upd st.1 t (tierR s m t (st.1 s.nt) (st.1 t) st.2 (s.wn t)).2.1) s.nt (tierR s m t (st.1 s.nt) (st.1 t) st.2 (s.wn t)).1 j).length ≤ B + M
  have h1 := h j
  have h2 := h t
  have h3 := tierR_len s m t (st.1 s.nt) (st.1 t) st.2 (s.wn t)
  have h4 := tierR_cnt s m t (st.1 s.nt) (st.1 t) st.2 (s.wn t)
  unfold upd
  split
  · omega
  · split
    · omega
    · omega
theorem loadsF_bound (s : Stk) (m M : Nat) (hm : m ≤ M) (n : Nat) : ∀ (ts : List Nat), ts.length = n → (∀ t ∈ ts, s.wn t ≤ M) → ∀ j, ((loadsF s m ts).1 j).length ≤ (n + 1) * M := by
  induction n with
  | zero =>
    intro ts hn _ j
    obtain rfl := List.eq_nil_of_length_eq_zero hn
    simp only [loadsF, List.foldl_nil, ld0]
    split
    · simp; omega
    · simp
  | succ n ih =>
    intro ts hn hw j
    rcases List.eq_nil_or_concat ts with rfl | ⟨ts, t, rfl⟩
    · simp at hn
    rw [List.concat_eq_append] at hn hw ⊢
    rw [loadsF_append]
    have ih' := ih ts (by simpa using hn) (fun t ht => hw t (by simp [ht]))
    have h1 := tierSt_bound s m M _ hm (loadsF s m ts) t (hw t (by simp)) ih' (by omega) j
    refine Nat.le_trans h1 ?_
    rw [Nat.succ_mul (n + 1)]
    exact Nat.le_refl _
theorem cellsL_one' (x : Nat × Nat) : cellsL [x] = [.int .i64 x.1, .int .i64 x.2] := rfl
theorem grown_set2 (W : World) (b i j : Nat) (u v : Value) : W.grownBy ((W.setCell ⟨b, i, none⟩ u).setCell ⟨b, j, none⟩ v) (some b) :=
  ⟨rfl, rfl, rfl, by rw [size_set, size_set]; exact Nat.le_refl _, fun k _ hk => (Below.heap_setCell _ _ _ k (fun e => hk (by rw [e]))).trans (Below.heap_setCell _ _ _ k (fun e => hk (by rw [e])))⟩
theorem keepsGrown {W W' : World} {base : Nat} {e : TypeId} {size k : Nat} {v : Value} {xs : List Value} (h : W.ownsRow base e size v k xs) (hg : W.grownBy W' v.ownBlock) : KeepsOthers W W' := ⟨hg.size, fun j o hj hc => by
  have hlt : j < W.heap.size := by
    rcases Nat.lt_or_ge j W.heap.size with hl | hl
    · exact hl
    · rw [Array.getElem?_eq_none hl] at hj; cases hj
  refine (hg.block j hlt (fun e => ?_)).trans hj
  rcases h.2 with ⟨rfl, -⟩ | ⟨g, cap, cur, rfl, -, hh, -⟩
  · simp [Value.ownBlock] at e
  · have : j = g := by simpa [Value.ownBlock] using e
    subst this
    rw [hh] at hj
    cases hj
    cases hc⟩
end Go.Proofs.Ytlhekifmkkgjlaa
