/- KilnCounts: what holds at the head of a round. -/
import Derived.Test.YtlhekifmkkgjlaaMk
set_option linter.unusedSimpArgs false
set_option linter.unusedVariables false
set_option linter.unnecessarySimpa false
namespace Go.Proofs.Ytlhekifmkkgjlaa
open Go Go.RowKit Go.Shelf
set_option maxRecDepth 100000
def cells7 (x : Wa) (y : Wa) : Array Value := #[.int .i64 x.wet, .int .i64 x.dry, .int .i64 x.burning, .int .i64 x.fired, .int .i64 x.laid, .int .i64 x.broken, .int .i64 x.missing, .int .i64 y.wet, .int .i64 y.dry, .int .i64 y.burning, .int .i64 y.fired, .int .i64 y.laid, .int .i64 y.broken, .int .i64 y.missing]
/-- what burns: nothing, or kind kb, whose list lies in block g -/
def Burns (wr : World) (b S p : Nat) (ov : Value) (bu : Bool) (ws : Nat → Wa) (pu : Nat → Int) : Prop :=
  (bu = false ∧ ov = .slice none 0 0 ∧ ∀ k, k < 2 → (ws k).burning = 0) ∨
  (bu = true ∧ ∃ kb g oc : Nat, kb < 2 ∧ ov = .slice (some ⟨g, 0, none⟩) 1 oc ∧ IR wr wr.heap.size (some ⟨g, 0, none⟩) 1 (fun _ => (kb : Int)) ∧ pu kb = (ws kb).burning ∧ (∀ k, k < 2 → k ≠ kb → (ws k).burning = 0 ∧ pu k = 0) ∧ p + 3 < g)
/-- the book and the law's own boxes: the spaces in block sb, moulded p, put p + 1, laid p + 2, before p + 3 -/
structure CI0 (w0 : World) (b S p sb soff sc : Nat) (ov : Value) (ws : Nat → Wa) (mo la pu : Nat → Int) (old : Nat → Wa) (wr : World) : Prop where
  below : Below w0.heap.size w0 wr
  book : Blk wr b 148 #[.slice (some ⟨sb, soff, none⟩) 2 sc, .int .i64 400, .slice (some ⟨S, 0, none⟩) 2 2, ov]
  st : Stores wr S 2 ws
  ok : ∀ k, k < 2 → OkW (ws k)
  sp : IR wr wr.heap.size (some ⟨sb, soff, none⟩) 2 (fun i => if i = 0 then 1 else 3)
  moB : Blk wr p 99 #[.int .i64 (mo 0), .int .i64 (mo 1)]
  putB : Blk wr (p + 1) 99 #[.int .i64 (pu 0), .int .i64 (pu 1)]
  laB : Blk wr (p + 2) 99 #[.int .i64 (la 0), .int .i64 (la 1)]
  be : Blk wr (p + 3) 100 (cells7 (old 0) (old 1))
  low : w0.heap.size ≤ b ∧ w0.heap.size ≤ S ∧ w0.heap.size ≤ sb ∧ b < p ∧ S < p ∧ sb < p ∧ sb ≠ S ∧ sb ≠ b
/-- all that holds at the head of a round -/
structure CI (w0 : World) (b S p sb soff sc : Nat) (ov : Value) (bu : Bool) (ws : Nat → Wa) (mo la pu : Nat → Int) (old : Nat → Wa) (wr : World) : Prop extends CI0 w0 b S p sb soff sc ov ws mo la pu old wr where
  burn : Burns wr b S p ov bu ws pu
theorem Burns.ext {wr w' : World} {b S p : Nat} {ov : Value} {bu : Bool} {ws : Nat → Wa} {pu : Nat → Int} (h : Burns wr b S p ov bu ws pu) (hb : Below wr.heap.size wr w') : Burns w' b S p ov bu ws pu := by
  rcases h with h | ⟨h1, kb, g, oc, h2, h3, h4, h5⟩
  · exact .inl h
  · exact .inr ⟨h1, kb, g, oc, h2, h3, (h4.below hb (Nat.le_refl _)).more hb.size, h5⟩
theorem CI.ext {w0 wr w' : World} {b S p sb soff sc : Nat} {ov : Value} {bu : Bool} {ws : Nat → Wa} {mo la pu : Nat → Int} {old : Nat → Wa} (h : CI w0 b S p sb soff sc ov bu ws mo la pu old wr) (hb : Below wr.heap.size wr w') : CI w0 b S p sb soff sc ov bu ws mo la pu old w' :=
  ⟨⟨h.below.trans (hb.mono h.below.size), h.book.ext hb, h.st.below hb h.st.lt, h.ok, (h.sp.below hb (Nat.le_refl _)).more hb.size, h.moB.ext hb, h.putB.ext hb, h.laB.ext hb, h.be.ext hb, h.low⟩, h.burn.ext hb⟩
/-- behind a call that turns kind k into X, and no more -/
theorem CI.step {w0 wr w' : World} {b S p sb soff sc : Nat} {ov : Value} {bu : Bool} {ws : Nat → Wa} {mo la pu : Nat → Int} {old : Nat → Wa} {k : Nat} {E : Int} {X : Wa} {e : Ending} (h : CI w0 b S p sb soff sc ov bu ws mo la pu old wr)
    (hs : StepPost b S 2 (.slice (some ⟨sb, soff, none⟩) 2 sc) ov 400 ws k E X wr e w') (hX : OkW X) (hb : X.burning = (ws k).burning) : CI w0 b S p sb soff sc ov bu (upd ws k X) mo la pu old w' := by
  obtain ⟨-, hbk, hst, hg⟩ := hs
  obtain ⟨l1, l2, l3, l4, l5, l6, l7, l8⟩ := h.low
  have hbur : ∀ i, (upd ws k X i).burning = (ws i).burning := fun i => by
    by_cases hi : i = k
    · subst hi; rw [upd_same]; exact hb
    · rw [upd_ne _ _ hi]
  refine ⟨⟨h.below.grown hg h.below.size (fun j hj => by injection hj with hj; omega), hbk, hst, fun i hi => ?_, fun hn => ?_, h.moB.grown hg (fun e => by injection e; omega), h.putB.grown hg (fun e => by injection e; omega), h.laB.grown hg (fun e => by injection e; omega), h.be.grown hg (fun e => by injection e; omega), h.low⟩, ?_⟩
  · by_cases hi2 : i = k
    · subst hi2; rw [upd_same]; exact hX
    · rw [upd_ne _ _ hi2]; exact h.ok i hi
  · obtain ⟨g, o, h1, h2, h3⟩ := h.sp hn
    injection h1 with h1
    injection h1 with h4 h5
    subst h4 h5
    exact ⟨sb, soff, rfl, Nat.lt_of_lt_of_le h2 hg.size, fun i j hi hj => (World.cell?_of_block (w := wr) (hg.block sb h2 (fun e => by injection e; omega))).trans (h3 i j hi hj)⟩
  · rcases h.burn with ⟨c1, c2, c3⟩ | ⟨c1, kb, g, oc, c2, c3, c4, c5, c6, c7⟩
    · exact .inl ⟨c1, c2, fun i hi => (hbur i).trans (c3 i hi)⟩
    · refine .inr ⟨c1, kb, g, oc, c2, c3, fun hn => ?_, by rw [hbur]; exact c5, fun i hi hne => by rw [hbur]; exact c6 i hi hne, c7⟩
      obtain ⟨g', o, h1, h2, h3⟩ := c4 hn
      injection h1 with h1
      injection h1 with h4 h5
      subst h4 h5
      exact ⟨g, 0, rfl, Nat.lt_of_lt_of_le h2 hg.size, fun i j hi hj => (World.cell?_of_block (w := wr) (hg.block g h2 (fun e => by injection e; omega))).trans (h3 i j hi hj)⟩
theorem own_blk {w : World} {base n : Nat} {e : TypeId} {g cap : Nat} {xs : List Value} (h : w.ownsRow base e 1 (.slice (some ⟨g, 0, none⟩) n cap) n xs) : ∃ cur, Blk w g e cur := by
  rcases h.2 with ⟨h1, -⟩ | ⟨b, cap', cur, hv, -, hh, -⟩
  · cases h1
  · injection hv with h1
    injection h1 with h1
    injection h1 with h1
    subst h1
    exact ⟨cur, hh⟩
theorem CI.init {w0 w1 w2 : World} {base b S : Nat} (hbook : BookAt w1 base b S 2 (fun i => if i = 0 then 1 else 3) 400 (fun _ => Wa.zero) (.slice none 0 0)) (hbase : w0.heap.size ≤ base) (hb : Below w0.heap.size w0 w1) (hb2 : Below w1.heap.size w1 w2)
    (m5 : Blk w2 w1.heap.size 99 #[.int .i64 0, .int .i64 0]) (m6 : Blk w2 (w1.heap.size + 1) 99 #[.int .i64 0, .int .i64 0]) (m7 : Blk w2 (w1.heap.size + 2) 99 #[.int .i64 0, .int .i64 0]) (m8 : Blk w2 (w1.heap.size + 3) 100 (cells7 Wa.zero Wa.zero)) :
    ∃ sb sc, CI w0 b S w1.heap.size sb 0 sc (.slice none 0 0) false (fun _ => Wa.zero) (fun _ => 0) (fun _ => 0) (fun _ => 0) (fun _ => Wa.zero) w2 := by
  obtain ⟨A, c, h1, h2, h3, h4, h5⟩ := hbook
  obtain ⟨g, oc, h6, h7, h8⟩ := own_addr h2 (by omega)
  injection h6 with h6 h9 h10
  subst h6 h10
  obtain ⟨cur, hcur⟩ := own_blk h2
  obtain ⟨cs, hcs⟩ := h3.1
  refine ⟨g, c, ⟨hb.trans (hb2.mono hb.size), h1.ext hb2, h3.below hb2 h3.lt, fun k _ => ?_, (h8.below hb2 (Nat.le_refl _)).more hb2.size, m5, m6, m7, m8, by omega, by omega, by omega, h1.lt, h3.lt, hcur.lt, hcur.ne_ hcs (by decide), hcur.ne_ h1 (by decide)⟩, .inl ⟨rfl, rfl, fun _ _ => rfl⟩⟩
  exact ⟨by decide, by decide, by decide, by decide, by decide, by decide, by decide, by decide, by decide⟩
theorem Blk.apart {w w' : World} {S b g : Nat} {t : TypeId} {cs : Array Value} (h : Blk w g t cs) (ha : Apart w w' S b) (hS : g ≠ S) (hb : g ≠ b) : Blk w' g t cs := (ha.2.2.2.2 g h.lt hS hb).trans h
theorem IR.apart {w w' : World} {S b g o n : Nat} {x : Nat → Int} (h : IR w w.heap.size (some ⟨g, o, none⟩) n x) (ha : Apart w w' S b) (hS : g ≠ S) (hb : g ≠ b) : IR w' w'.heap.size (some ⟨g, o, none⟩) n x := fun hn => by
  obtain ⟨g', o', h1, h2, h3⟩ := h hn
  injection h1 with h1
  injection h1 with h4 h5
  subst h4 h5
  exact ⟨g, o, rfl, Nat.lt_of_lt_of_le h2 ha.2.2.2.1, fun i j hi hj => (ha.cell (p := ⟨g, o + i * 1 + j, none⟩) h2 hS hb).trans (h3 i j hi hj)⟩
theorem CI0.apart {w0 wr w' : World} {b S p sb soff sc : Nat} {ov ov' : Value} {ws ws' : Nat → Wa} {mo la pu : Nat → Int} {old : Nat → Wa} (h : CI0 w0 b S p sb soff sc ov ws mo la pu old wr) (ha : Apart wr w' S b)
    (hbk : Blk w' b 148 #[.slice (some ⟨sb, soff, none⟩) 2 sc, .int .i64 400, .slice (some ⟨S, 0, none⟩) 2 2, ov']) (hst : Stores w' S 2 ws') (ho : ∀ k, k < 2 → OkW (ws' k)) : CI0 w0 b S p sb soff sc ov' ws' mo la pu old w' := by
  obtain ⟨l1, l2, l3, l4, l5, l6, l7, l8⟩ := h.low
  have z := h.below.size
  obtain ⟨a1, a2, a3, a4, a5⟩ := ha
  refine ⟨h.below.trans ⟨a1, a2, a3, a4, fun j hj => a5 j (by omega) (by omega) (by omega)⟩, hbk, hst, ho, h.sp.apart ⟨a1, a2, a3, a4, a5⟩ l7 l8, h.moB.apart ⟨a1, a2, a3, a4, a5⟩ (by omega) (by omega), h.putB.apart ⟨a1, a2, a3, a4, a5⟩ (by omega) (by omega), h.laB.apart ⟨a1, a2, a3, a4, a5⟩ (by omega) (by omega), h.be.apart ⟨a1, a2, a3, a4, a5⟩ (by omega) (by omega), h.low⟩
/-- behind a Fire that is not refused -/
theorem CI.fired {w0 wr w' : World} {b S p sb soff sc k : Nat} {N : Int} {ov : Value} {ws : Nat → Wa} {mo la pu : Nat → Int} {old : Nat → Wa} (h : CI w0 b S p sb soff sc (.slice none 0 0) false ws mo la pu old wr) (hk : k < 2) (h0 : 1 ≤ N) (h1 : N ≤ (ws k).dry)
    (hbk : Blk w' b 148 #[.slice (some ⟨sb, soff, none⟩) 2 sc, .int .i64 400, .slice (some ⟨S, 0, none⟩) 2 2, ov]) (how : w'.ownsRow wr.heap.size 3 1 ov 1 (cellsOf 1 1 fun _ _ => .int .i64 (k : Int))) (hst : Stores w' S 2 (upd ws k (fireX (ws k) N))) (ha : Apart wr w' S b) :
    CI0 w0 b S p sb soff sc ov (upd ws k (fireX (ws k) N)) mo la pu old w' ∧ Burns w' b S p ov true (upd ws k (fireX (ws k) N)) (fun j => if j = k then N else 0) := by
  have hf := fireX_ok (h.ok k hk) h0 h1
  have hcold : ∀ k, k < 2 → (ws k).burning = 0 := by
    rcases h.burn with ⟨-, -, c⟩ | ⟨c, -⟩
    · exact c
    · cases c
  refine ⟨h.toCI0.apart ha hbk hst fun i hi => ?_, .inr ⟨rfl, k, ?_⟩⟩
  · by_cases e : i = k
    · subst e; rw [upd_same]; exact hf.1
    · rw [upd_ne _ _ e]; exact h.ok i hi
  · obtain ⟨g, oc, e1, e2, e3⟩ := own_addr how (by omega)
    refine ⟨g, oc, hk, e1, e3, ?_, fun i hi hne => ?_, by have := h.be.lt; omega⟩
    · show (if k = k then N else 0) = (upd ws k (fireX (ws k) N) k).burning
      rw [if_pos rfl, upd_same, hf.2.2.2.1, hcold k hk]; omega
    · show (upd ws k (fireX (ws k) N) i).burning = 0 ∧ (if i = k then N else 0) = 0
      rw [if_neg hne, upd_ne _ _ hne]
      exact ⟨hcold i hi, rfl⟩
/-- behind a Draw that is not refused -/
theorem CI.drawn {w0 wr w' : World} {b S p sb soff sc k : Nat} {l : Int} {ov : Value} {ws : Nat → Wa} {mo la pu : Nat → Int} {old : Nat → Wa} (h : CI w0 b S p sb soff sc ov true ws mo la pu old wr) (hk : k < 2) (hcold : ∀ i, i < 2 → i ≠ k → (ws i).burning = 0) (h0 : 0 ≤ l) (h1 : l ≤ (ws k).burning)
    (hbk : Blk w' b 148 #[.slice (some ⟨sb, soff, none⟩) 2 sc, .int .i64 400, .slice (some ⟨S, 0, none⟩) 2 2, .slice none 0 0]) (hst : Stores w' S 2 (upd ws k (Proofs.Ytlhekifmkkgjlaa.drawn (ws k) l))) (ha : Apart wr w' S b) :
    CI w0 b S p sb soff sc (.slice none 0 0) false (upd ws k (Proofs.Ytlhekifmkkgjlaa.drawn (ws k) l)) mo la pu old w' := by
  have hf := drawn_ok (h.ok k hk) h0 h1
  refine ⟨h.toCI0.apart ha hbk hst fun i hi => ?_, .inl ⟨rfl, rfl, fun i hi => ?_⟩⟩
  · by_cases e : i = k
    · subst e; rw [upd_same]; exact hf.1
    · rw [upd_ne _ _ e]; exact h.ok i hi
  · by_cases e : i = k
    · subst e; rw [upd_same]; exact hf.2.2.2.1
    · rw [upd_ne _ _ e]; exact hcold i hi e
end Go.Proofs.Ytlhekifmkkgjlaa
