/- A map[int]bool that a call keeps as a set. -/
import Derived.Test.YtlhekifmkkgjlaaMb
import Derived.Maps.Own
import Derived.Maps.Views
set_option linter.unusedSimpArgs false
set_option linter.unusedVariables false
set_option linter.unnecessarySimpa false
namespace Go.Proofs.Ytlhekifmkkgjlaa
open Go Go.RowKit
set_option maxHeartbeats 1000000
set_option maxRecDepth 100000
/-- block b is a set of at most n numbers: those of which p is true -/
def SeenAt (w : World) (b n : Nat) (p : Int → Bool) : Prop :=
  ∃ D : DataW Unit, w.ownsMap Try.prog 3 (plainElem Try.prog 4) b n D ∧ Maps.IsMap D ∧ ∀ z, D.atKey (.int .i64 z) (.lit (.bool false)) = .lit (.bool (p z))
theorem SeenAt.lt {w : World} {b n : Nat} {p : Int → Bool} (h : SeenAt w b n p) : b < w.heap.size := by
  obtain ⟨D, h1, -⟩ := h
  exact h1.lt
theorem SeenAt.made (w : World) : SeenAt (w.alloc (.map #[] 0)) w.heap.size 0 (fun _ => false) :=
  ⟨.map [], World.ownsMap_made w _ _ _, Maps.isMap_empty, fun _ => rfl⟩
theorem SeenAt.kept {w w' : World} {b n : Nat} {p : Int → Bool} (h : SeenAt w b n p) {row : Option Nat} (hg : w.grownBy w' row) (hne : some b ≠ row) : SeenAt w' b n p := by
  obtain ⟨D, h1, h2, h3⟩ := h
  exact ⟨D, h1.kept hg hne, h2, h3⟩
theorem SeenAt.alloc {w : World} {b n : Nat} {p : Int → Bool} (h : SeenAt w b n p) (o : Obj) : SeenAt (w.alloc o) b n p := h.kept (World.grownBy_alloc w o none) (by simp)
theorem SeenAt.drew {w : World} {b n : Nat} {p : Int → Bool} (h : SeenAt w b n p) : SeenAt w.drew b n p := h
theorem SeenAt.ext {w w' : World} {b n : Nat} {p : Int → Bool} (h : SeenAt w b n p) (hb : Below w.heap.size w w') : SeenAt w' b n p := h.kept (grown_none hb) (by simp)
def inInt (z : Int) : Prop := -9223372036854775808 ≤ z ∧ z ≤ 9223372036854775807
theorem wf_inInt {z : Int} (h : inInt z) : (Lit.int .i64 z).wf = true := by
  simpa [Lit.wf, IntKind.min, IntKind.max, IntKind.signed, IntKind.bits, inInt] using h
theorem key_i64 {z : Int} (h : inInt z) : keyOf Try.prog 3 (.int .i64 z) = some (.int .i64 z) := Maps.keyOf_int_mk Try.underlying3 (wf_inInt h)
theorem seen_look {w : World} {b n : Nat} {p : Int → Bool} (h : SeenAt w b n p) {z : Int} (hz : inInt z) :
    (Instr.lookup 161 (.map (some b)) (.int .i64 z) false).run Try.prog w = .ok (.bool (p z)) w := by
  obtain ⟨D, h1, h2, h3⟩ := h
  obtain ⟨v, ps, hrun, hv⟩ := h1.lookup (t := 161) (e := 4) (z := .bool false) (zd := .lit (.bool false)) (zp := []) (Maps.int_keyed Try.underlying3) Try.underlying161 (by kernel_rfl) (plainElem_bool Try.underlying4 false) (key_i64 hz)
  rw [h3] at hv
  rw [hrun]
  have hk : v = .bool (p z) := by
    unfold plainElem at hv
    rw [Try.underlying4] at hv
    cases v <;> simp at hv
    rw [hv.1]
  rw [hk]
theorem seen_put {w : World} {b n : Nat} {p : Int → Bool} (h : SeenAt w b n p) (hn : n < maxLen) {z : Int} (hz : inInt z) :
    ∃ w', (Instr.mapUpdate 161 (.map (some b)) (.int .i64 z) (.bool true)).run Try.prog w = .ok () w' ∧ SeenAt w' b (n + 1) (fun x => decide (x = z) || p x) ∧ w.grownBy w' (some b) := by
  obtain ⟨D, h1, h2, h3⟩ := h
  obtain ⟨w', hrun, hown, hg⟩ := h1.update (t := 161) (e := 4) (val := .bool true) (Maps.int_keyed Try.underlying3) Try.underlying161 hn (key_i64 hz) (plainElem_bool Try.underlying4 true)
  refine ⟨w', hrun, ⟨_, hown, h2.put _ _, fun x => ?_⟩, hg⟩
  by_cases e : x = z
  · subst e
    rw [Maps.atKey_put_same h2 (by simp [WideAt.IsKeyLit])]
    simp
  · rw [Maps.atKey_put_other (fun h => e (by injection h)), h3]
    simp [e]
end Go.Proofs.Ytlhekifmkkgjlaa
