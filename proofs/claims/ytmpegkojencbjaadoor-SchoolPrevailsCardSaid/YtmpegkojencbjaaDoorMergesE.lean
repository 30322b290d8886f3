/- School: the editor's edit, walked: no error. -/
import Derived.Test.YtmpegkojencbjaaDoorMergesD
import Derived.Lib.SliceRun
set_option linter.unusedSimpArgs false
set_option linter.unusedVariables false
set_option linter.unnecessarySimpa false
namespace Go.Proofs.YtmpegkojencbjaaDoor
open List renaming getElem_toArray → glA, getElem_cons_zero → glB, getElem_cons_succ → glC, setIfInBounds_toArray → glD, set_cons_zero → glE, set_cons_succ → glF
open Go Go.RowKit Go.Shelf
set_option maxHeartbeats 4000000
set_option maxRecDepth 100000
theorem SR.one (W : World) (x : Wd) : SR (W.alloc (.cells #[.string x] 9)) (W.alloc (.cells #[.string x] 9)).heap.size (some ⟨W.heap.size, 0, none⟩) [x] := fun _ => by
  refine ⟨W.heap.size, 0, rfl, by simp, fun k i hk hi => ?_⟩
  have hk : k = 0 := by simp at hk; exact hk
  obtain rfl := hk
  obtain rfl : i = 0 := by omega
  have h := (Blk.new W 9 #[.string x]).cell 0
  simpa using h
section
variable {w W : World} {X : Nat} {A : Option Addr} {c : Nat} {a : List Wd} {i : Nat} {v : Value} {l : List Wd}
theorem EX.ext {W' : World} (h : EX w W X A c a i v l) (hb : Below W.heap.size W W') : EX w W' X A c a i v l :=
  ⟨h.below.trans (hb.mono h.below.size), h.lo, h.blk.ext hb, h.own.ext hb⟩
/-- a word is put behind -/
theorem EX.push (h : EX w W X A c a i v l) (x : Wd) (hl : l.length ≤ 1000000 - 1) :
    ∃ A' n' c' w', (Builtin.append_ #[22, 22] 22 #[v, .slice (some ⟨W.heap.size, 0, none⟩) 1 1]).run Tryd.prog (W.alloc (.cells #[.string x] 9)) = .ok (.slice A' n' c') w' ∧
      Blk w' X 92 #[.slice A a.length c, .int .i64 i, v] ∧ (W.alloc (.cells #[.string x] 9)).grownBy w' v.ownBlock ∧
      EX w (w'.setCell ⟨X, 2, none⟩ (.slice A' n' c')) X A c a i (.slice A' n' c') (l ++ [x]) ∧ KX W (w'.setCell ⟨X, 2, none⟩ (.slice A' n' c')) X v.ownBlock ∧
      ((Value.slice A' n' c').ownBlock = v.ownBlock ∨ ∀ k, (Value.slice A' n' c').ownBlock = some k → W.heap.size ≤ k) := by
  have hBA : Below W.heap.size W (W.alloc (.cells #[.string x] 9)) := (Below.refl _ _).alloc (Nat.le_refl _) _
  have h1 := h.ext hBA
  obtain ⟨v', w', hr, ho, hg, hrow⟩ := h1.own.pushes (some ⟨W.heap.size, 0, none⟩) 1 [x] (SR.one W x) (by simp; omega) h1.below.size
  obtain ⟨A', c', hv'⟩ := own_shape ho
  subst hv'
  have hb : Blk w' X 92 #[.slice A a.length c, .int .i64 i, v] := h1.blk.grown hg (fun e => own_blk_ne h1.own h1.blk (by decide) e.symm)
  refine ⟨A', _, c', w', hr, hb, hg, ⟨((h1.below.grown hg h1.below.size (fun k hk => (World.ownsRow.lt h1.own k hk).1)).setCell h1.lo _), h1.lo, ?_, ?_⟩, ((KX.of_below X _ hBA).grown hg).set 2 _, hrow.imp id (fun h k hk => ?_)⟩
  · exact hb.set_ 2 _
  · exact World.ownsRow.kept ho (grownBy_setC w' X 2 _) (.inr (own_blk_ne ho hb (by decide)))
  · rw [h] at hk
    injection hk with hk
    have := hBA.size
    omega
/-- the editor's place is set -/
theorem EX.move (h : EX w W X A c a i v l) (j : Nat) : EX w (W.setCell ⟨X, 1, none⟩ (.int .i64 j)) X A c a j v l :=
  ⟨h.below.setCell h.lo _, h.lo, h.blk.set_ 1 _, World.ownsRow.kept h.own (grownBy_setC W X 1 _) (.inr (own_blk_ne h.own h.blk (by decide)))⟩
end
theorem KX.both {W w2 w4 : World} {X : Nat} {v v2 v3 : Value} (h : KX W w2 X v.ownBlock) (hr : v2.ownBlock = v.ownBlock ∨ ∀ k, v2.ownBlock = some k → W.heap.size ≤ k) (h2 : KX w2 w4 X v2.ownBlock) (hr2 : v3.ownBlock = v2.ownBlock ∨ ∀ k, v3.ownBlock = some k → w2.heap.size ≤ k) :
    KX W w4 X v.ownBlock ∧ (v3.ownBlock = v.ownBlock ∨ ∀ k, v3.ownBlock = some k → W.heap.size ≤ k) := by
  have hs := h.size
  refine ⟨h.trans h2 hr, ?_⟩
  rcases hr2 with e | h3
  · rw [e]; exact hr
  · exact .inr (fun k hk => Nat.le_trans hs (h3 k hk))
/-- what an edit that is done leaves -/
def EdPost (w W : World) (X : Nat) (A : Option Addr) (c : Nat) (a : List Wd) (j : Nat) (v : Value) (l' : List Wd) (e : Ending) (w' : World) : Prop :=
  ∃ v', e = .returned (.int .i64 0) ∧ EX w w' X A c a j v' l' ∧ KX W w' X v.ownBlock ∧ (v'.ownBlock = v.ownBlock ∨ ∀ k, v'.ownBlock = some k → W.heap.size ≤ k)
theorem edit_add (w W : World) (X : Nat) (A : Option Addr) (c : Nat) (a : List Wd) (i : Nat) (v : Value) (l : List Wd) (t : Nat) (old new : Wd) (hX : EX w W X A c a i v l) (hA : SR w w.heap.size A a) (hit : i ≤ t) (hta : t ≤ a.length) (hac : a.length ≤ c) (hc : c ≤ maxLen) (hl : l.length + t ≤ 100000) :
    Calls Tryd.prog 56 #[.pointer (some ⟨X, 0, none⟩), .agg #[.int .i64 3, .int .i64 (t : Nat), .string old, .string new]] W (EdPost w W X A c a t v (takeL a i t l ++ [new])) := by
  have HB0 := hide ((Below.refl W.heap.size W).alloc (Nat.le_refl _) (.cells #[.int .i64 3, .int .i64 (t : Nat), .string old, .string new] 86))
  have E1 := Blk.new W 86 #[.int .i64 3, .int .i64 (t : Nat), .string old, .string new]
  have X1 := hX.ext HB0.out
  have hown := World.ownsRow.lt hX.own
  obtain ⟨n, hn⟩ : ∃ n, a.length = n := ⟨_, rfl⟩
  obtain ⟨g, hg⟩ : ∃ g, W.heap.size = g := ⟨_, rfl⟩
  rw [hg] at E1 hown
  obtain ⟨w1, hw1⟩ : ∃ w1, W.alloc (.cells #[.int .i64 3, .int .i64 (t : Nat), .string old, .string new] 86) = w1 := ⟨_, rfl⟩
  rw [hw1] at E1 X1 HB0
  have HS1 : Hid (∀ V, Below w1.heap.size w1 V → V.cell? ⟨X, 0, none⟩ = some (.slice A n c) ∧ V.cell? ⟨g, 0, none⟩ = some (.int .i64 3) ∧ V.cell? ⟨g, 1, none⟩ = some (.int .i64 (t : Nat)) ∧ V.cell? ⟨g, 2, none⟩ = some (.string old) ∧ V.cell? ⟨g, 3, none⟩ = some (.string new)) := hide (fun V h => by
    have h2 := X1.blk.ext h
    rw [hn] at h2
    exact ⟨(blk3 h2).2.1, (blk4 (E1.ext h)).2⟩)
  have HGX : Hid (g ≠ X) := hide (E1.ne_ X1.blk (by decide))
  have HT : Hid (∀ V, Below w1.heap.size w1 V → Calls Tryd.prog 57 #[.pointer (some ⟨X, 0, none⟩), .int .i64 t] V fun e w' => ∃ v', e = .returned (.tuple #[]) ∧ EX w w' X A c a t v' (takeL a i t l) ∧ KX V w' X v.ownBlock ∧ (v'.ownBlock = v.ownBlock ∨ ∀ k, v'.ownBlock = some k → V.heap.size ≤ k)) := hide (fun V h => take_any w V X A c a i t v l (X1.ext h) hA hit hta hac hc (by omega))
  have HL2 : Hid ((takeL a i t l).length ≤ 1000000 - 1) := hide (by unfold takeL; rw [List.length_append, List.length_take]; omega)
  have HE1 := hide E1
  have HOWN := hide hown
  have HSZ := hide hg
  have hgs : g < w1.heap.size := E1.lt
  rw [hn] at hta hac
  unfold maxLen at hc
  unfold EdPost
  clear E1 X1 hX hA hown
  have k1 : ¬ (n : Int) < (t : Int) := by omega
  have m0 : (3 : Int) ≠ 2 := by omega
  rw [hg]
  by_cases hn2 : t = n
  · have k2 : ((t : Int) == (n : Int)) = true := by rw [hn2]; exact beq_self_eq_true _
    have k3 : (t == n) = true := by rw [hn2]; exact beq_self_eq_true _
    clear hn2 hta
    go_enter Tryd.func56, Tryd.ntmps56
    go_upto_region 1 with fail
    have HBD := hide ((Below.refl w1.heap.size w1).drew)
    refine wp_region_J (fun W : World => W.cell? ⟨X, 0, none⟩ = some (.slice A n c) ∧ W.cell? ⟨g, 0, none⟩ = some (.int .i64 3) ∧ W.cell? ⟨g, 1, none⟩ = some (.int .i64 (t : Nat)) ∧ W.cell? ⟨g, 2, none⟩ = some (.string old) ∧ W.cell? ⟨g, 3, none⟩ = some (.string new)) (by kernel_rfl) ?_
    generalize w1.drew = wd at HBD ⊢
    have hs1 := HS1.out _ HBD.out
    refine wpAnyJ_take 0 (v := ?_) (by first | exact hF | exact wideFn) (hs1) rfl (by kernel_rfl) (by kernel_rfl) (by kernel_rfl) (by kernel_rfl) rfl ?_ (by first | exact fun _ _ _ h => h | exact fun _ _ _ h => hQ2 _ _ _ _ _ h) ?_
    rotate_left
    · intro W hSW
      simp only [glA, glB, glC]
      (try dsimp only at hSW)
      go_simp
      with_reducible rfl
    (try simp only [glA, glB, glC, Act.put, glD, glE, glF])
    refine wpAnyJ_take 1 (v := ?_) (by first | exact hF | exact wideFn) (hs1) rfl (by kernel_rfl) (by kernel_rfl) (by kernel_rfl) (by kernel_rfl) rfl ?_ (by first | exact fun _ _ _ h => h | exact fun _ _ _ h => hQ2 _ _ _ _ _ h) ?_
    rotate_left
    · intro W hSW
      simp only [glA, glB, glC]
      (try dsimp only at hSW)
      go_simp
      with_reducible rfl
    (try simp only [glA, glB, glC, Act.put, glD, glE, glF])
    refine wpAnyJ_take 2 (v := ?_) (by first | exact hF | exact wideFn) (hs1) rfl (by kernel_rfl) (by kernel_rfl) (by kernel_rfl) (by kernel_rfl) rfl ?_ (by first | exact fun _ _ _ h => h | exact fun _ _ _ h => hQ2 _ _ _ _ _ h) ?_
    rotate_left
    · intro W hSW
      simp only [glA, glB, glC]
      (try dsimp only at hSW)
      go_simp
      with_reducible rfl
    (try simp only [glA, glB, glC, Act.put, glD, glE, glF])
    refine wpAnyJ_take 3 (v := ?_) (by first | exact hF | exact wideFn) (hs1) rfl (by kernel_rfl) (by kernel_rfl) (by kernel_rfl) (by kernel_rfl) rfl ?_ (by first | exact fun _ _ _ h => h | exact fun _ _ _ h => hQ2 _ _ _ _ _ h) ?_
    rotate_left
    · intro W hSW
      simp only [glA, glB, glC]
      (try dsimp only at hSW)
      go_simp
      with_reducible rfl
    (try simp only [glA, glB, glC, Act.put, glD, glE, glF])
    refine wpAnyJ_take 4 (v := ?_) (by first | exact hF | exact wideFn) (hs1) rfl (by kernel_rfl) (by kernel_rfl) (by kernel_rfl) (by kernel_rfl) rfl ?_ (by first | exact fun _ _ _ h => h | exact fun _ _ _ h => hQ2 _ _ _ _ _ h) ?_
    rotate_left
    · intro W hSW
      simp only [glA, glB, glC]
      (try dsimp only at hSW)
      go_simp
      with_reducible rfl
    (try simp only [glA, glB, glC, Act.put, glD, glE, glF])
    refine wpAnyJ_take 5 (v := ?_) (by first | exact hF | exact wideFn) (hs1) rfl (by kernel_rfl) (by kernel_rfl) (by kernel_rfl) (by kernel_rfl) rfl ?_ (by first | exact fun _ _ _ h => h | exact fun _ _ _ h => hQ2 _ _ _ _ _ h) ?_
    rotate_left
    · intro W hSW
      simp only [glA, glB, glC]
      (try dsimp only at hSW)
      go_simp
      with_reducible rfl
    (try simp only [glA, glB, glC, Act.put, glD, glE, glF])
    refine wpAnyJ_take 6 (v := ?_) (by first | exact hF | exact wideFn) (hs1) rfl (by kernel_rfl) (by kernel_rfl) (by kernel_rfl) (by kernel_rfl) rfl ?_ (by first | exact fun _ _ _ h => h | exact fun _ _ _ h => hQ2 _ _ _ _ _ h) ?_
    rotate_left
    · intro W hSW
      simp only [glA, glB, glC]
      (try dsimp only at hSW)
      go_simp
      with_reducible rfl
    (try simp only [glA, glB, glC, Act.put, glD, glE, glF])
    refine wpAnyJ_take 7 (v := ?_) (by first | exact hF | exact wideFn) (hs1) rfl (by kernel_rfl) (by kernel_rfl) (by kernel_rfl) (by kernel_rfl) rfl ?_ (by first | exact fun _ _ _ h => h | exact fun _ _ _ h => hQ2 _ _ _ _ _ h) ?_
    rotate_left
    · intro W hSW
      simp only [glA, glB, glC]
      (try dsimp only at hSW)
      go_simp
      with_reducible rfl
    (try simp only [glA, glB, glC, Act.put, glD, glE, glF])
    refine wpAnyJ_take 8 (v := ?_) (by first | exact hF | exact wideFn) (hs1) rfl (by kernel_rfl) (by kernel_rfl) (by kernel_rfl) (by kernel_rfl) rfl ?_ (by first | exact fun _ _ _ h => h | exact fun _ _ _ h => hQ2 _ _ _ _ _ h) ?_
    rotate_left
    · intro W hSW
      simp only [glA, glB, glC]
      (try dsimp only at hSW)
      go_simp
      with_reducible rfl
    (try simp only [glA, glB, glC, Act.put, glD, glE, glF])
    refine wpAnyJ_take 9 (v := ?_) (by first | exact hF | exact wideFn) (hs1) rfl (by kernel_rfl) (by kernel_rfl) (by kernel_rfl) (by kernel_rfl) rfl ?_ (by first | exact fun _ _ _ h => h | exact fun _ _ _ h => hQ2 _ _ _ _ _ h) ?_
    rotate_left
    · intro W hSW
      simp only [glA, glB, glC]
      (try dsimp only at hSW)
      go_simp
      with_reducible rfl
    (try simp only [glA, glB, glC, Act.put, glD, glE, glF])
    refine wpAnyJ_take 10 (v := ?_) (by first | exact hF | exact wideFn) (hs1) rfl (by kernel_rfl) (by kernel_rfl) (by kernel_rfl) (by kernel_rfl) rfl ?_ (by first | exact fun _ _ _ h => h | exact fun _ _ _ h => hQ2 _ _ _ _ _ h) ?_
    rotate_left
    · intro W hSW
      simp only [glA, glB, glC]
      (try dsimp only at hSW)
      go_simp
      with_reducible rfl
    (try simp only [glA, glB, glC, Act.put, glD, glE, glF])
    refine wpAnyJ_take 11 (v := ?_) (by first | exact hF | exact wideFn) (hs1) rfl (by kernel_rfl) (by kernel_rfl) (by kernel_rfl) (by kernel_rfl) rfl ?_ (by first | exact fun _ _ _ h => h | exact fun _ _ _ h => hQ2 _ _ _ _ _ h) ?_
    rotate_left
    · intro W hSW
      simp only [glA, glB, glC]
      (try dsimp only at hSW)
      go_simp
      with_reducible rfl
    (try simp only [glA, glB, glC, Act.put, glD, glE, glF])
    refine wpAnyJ_take 12 (v := ?_) (by first | exact hF | exact wideFn) (hs1) rfl (by kernel_rfl) (by kernel_rfl) (by kernel_rfl) (by kernel_rfl) rfl ?_ (by first | exact fun _ _ _ h => h | exact fun _ _ _ h => hQ2 _ _ _ _ _ h) ?_
    rotate_left
    · intro W hSW
      simp only [glA, glB, glC]
      (try dsimp only at hSW)
      go_simp
      with_reducible rfl
    (try simp only [glA, glB, glC, Act.put, glD, glE, glF])
    refine wpAnyJ_take 13 (v := ?_) (by first | exact hF | exact wideFn) (hs1) rfl (by kernel_rfl) (by kernel_rfl) (by kernel_rfl) (by kernel_rfl) rfl ?_ (by first | exact fun _ _ _ h => h | exact fun _ _ _ h => hQ2 _ _ _ _ _ h) ?_
    rotate_left
    · intro W hSW
      simp only [glA, glB, glC]
      (try dsimp only at hSW)
      go_simp
      with_reducible rfl
    (try simp only [glA, glB, glC, Act.put, glD, glE, glF])
    refine wpAnyJ_take 14 (v := ?_) (by first | exact hF | exact wideFn) (hs1) rfl (by kernel_rfl) (by kernel_rfl) (by kernel_rfl) (by kernel_rfl) rfl ?_ (by first | exact fun _ _ _ h => h | exact fun _ _ _ h => hQ2 _ _ _ _ _ h) ?_
    rotate_left
    · intro W hSW
      simp only [glA, glB, glC]
      (try dsimp only at hSW)
      go_simp
      with_reducible rfl
    (try simp only [glA, glB, glC, Act.put, glD, glE, glF])
    refine wpAnyJ_take 15 (v := ?_) (by first | exact hF | exact wideFn) (hs1) rfl (by kernel_rfl) (by kernel_rfl) (by kernel_rfl) (by kernel_rfl) rfl ?_ (by first | exact fun _ _ _ h => h | exact fun _ _ _ h => hQ2 _ _ _ _ _ h) ?_
    rotate_left
    · intro W hSW
      simp only [glA, glB, glC]
      (try dsimp only at hSW)
      go_simp
      with_reducible rfl
    (try simp only [glA, glB, glC, Act.put, glD, glE, glF])
    refine wpAnyJ_take 16 (v := ?_) (by first | exact hF | exact wideFn) (hs1) rfl (by kernel_rfl) (by kernel_rfl) (by kernel_rfl) (by kernel_rfl) rfl ?_ (by first | exact fun _ _ _ h => h | exact fun _ _ _ h => hQ2 _ _ _ _ _ h) ?_
    rotate_left
    · intro W hSW
      simp only [glA, glB, glC]
      (try dsimp only at hSW)
      go_simp
      with_reducible rfl
    (try simp only [glA, glB, glC, Act.put, glD, glE, glF])
    refine wpAnyJ_take 17 (v := ?_) (by first | exact hF | exact wideFn) (hs1) rfl (by kernel_rfl) (by kernel_rfl) (by kernel_rfl) (by kernel_rfl) rfl ?_ (by first | exact fun _ _ _ h => h | exact fun _ _ _ h => hQ2 _ _ _ _ _ h) ?_
    rotate_left
    · intro W hSW
      simp only [glA, glB, glC]
      (try dsimp only at hSW)
      go_simp
      with_reducible rfl
    (try simp only [glA, glB, glC, Act.put, glD, glE, glF])
    refine wpAnyJ_take 18 (v := ?_) (by first | exact hF | exact wideFn) (hs1) rfl (by kernel_rfl) (by kernel_rfl) (by kernel_rfl) (by kernel_rfl) rfl ?_ (by first | exact fun _ _ _ h => h | exact fun _ _ _ h => hQ2 _ _ _ _ _ h) ?_
    rotate_left
    · intro W hSW
      simp only [glA, glB, glC]
      (try dsimp only at hSW)
      go_simp
      with_reducible rfl
    (try simp only [glA, glB, glC, Act.put, glD, glE, glF])
    refine wpAnyJ_take 19 (v := ?_) (by first | exact hF | exact wideFn) (hs1) rfl (by kernel_rfl) (by kernel_rfl) (by kernel_rfl) (by kernel_rfl) rfl ?_ (by first | exact fun _ _ _ h => h | exact fun _ _ _ h => hQ2 _ _ _ _ _ h) ?_
    rotate_left
    · intro W hSW
      simp only [glA, glB, glC]
      (try dsimp only at hSW)
      go_simp
      with_reducible rfl
    (try simp only [glA, glB, glC, Act.put, glD, glE, glF])
    refine wpAnyJ_take 20 (v := ?_) (by first | exact hF | exact wideFn) (hs1) rfl (by kernel_rfl) (by kernel_rfl) (by kernel_rfl) (by kernel_rfl) rfl ?_ (by first | exact fun _ _ _ h => h | exact fun _ _ _ h => hQ2 _ _ _ _ _ h) ?_
    rotate_left
    · intro W hSW
      simp only [glA, glB, glC]
      (try dsimp only at hSW)
      go_simp
      with_reducible rfl
    (try simp only [glA, glB, glC, Act.put, glD, glE, glF])
    refine wpAnyJ_take 21 (v := ?_) (by first | exact hF | exact wideFn) (hs1) rfl (by kernel_rfl) (by kernel_rfl) (by kernel_rfl) (by kernel_rfl) rfl ?_ (by first | exact fun _ _ _ h => h | exact fun _ _ _ h => hQ2 _ _ _ _ _ h) ?_
    rotate_left
    · intro W hSW
      simp only [glA, glB, glC]
      (try dsimp only at hSW)
      go_simp
      with_reducible rfl
    (try simp only [glA, glB, glC, Act.put, glD, glE, glF])
    refine wpAnyJ_take 22 (v := ?_) (by first | exact hF | exact wideFn) (hs1) rfl (by kernel_rfl) (by kernel_rfl) (by kernel_rfl) (by kernel_rfl) rfl ?_ (by first | exact fun _ _ _ h => h | exact fun _ _ _ h => hQ2 _ _ _ _ _ h) ?_
    rotate_left
    · intro W hSW
      simp only [glA, glB, glC]
      (try dsimp only at hSW)
      go_simp
      with_reducible rfl
    (try simp only [glA, glB, glC, Act.put, glD, glE, glF])
    refine wpAnyJ_done (by kernel_rfl) ?_
    go_upto_region 3 with fail
    have HBE := hide (HBD.out.trans ((Below.refl wd.heap.size wd).drew.mono HBD.out.size))
    refine wp_region_J (fun W : World => W.cell? ⟨X, 0, none⟩ = some (.slice A n c) ∧ W.cell? ⟨g, 0, none⟩ = some (.int .i64 3) ∧ W.cell? ⟨g, 1, none⟩ = some (.int .i64 (t : Nat)) ∧ W.cell? ⟨g, 2, none⟩ = some (.string old) ∧ W.cell? ⟨g, 3, none⟩ = some (.string new)) (by kernel_rfl) ?_
    generalize wd.drew = we at HBE ⊢
    have hs3 := HS1.out _ HBE.out
    refine wpAnyJ_take 0 (v := ?_) (by first | exact hF | exact wideFn) (hs3) rfl (by kernel_rfl) (by kernel_rfl) (by kernel_rfl) (by kernel_rfl) rfl ?_ (by first | exact fun _ _ _ h => h | exact fun _ _ _ h => hQ2 _ _ _ _ _ h) ?_
    rotate_left
    · intro W hSW
      simp only [glA, glB, glC]
      (try dsimp only at hSW)
      go_simp
      with_reducible rfl
    (try simp only [glA, glB, glC, Act.put, glD, glE, glF])
    refine wpAnyJ_take 1 (v := ?_) (by first | exact hF | exact wideFn) (hs3) rfl (by kernel_rfl) (by kernel_rfl) (by kernel_rfl) (by kernel_rfl) rfl ?_ (by first | exact fun _ _ _ h => h | exact fun _ _ _ h => hQ2 _ _ _ _ _ h) ?_
    rotate_left
    · intro W hSW
      simp only [glA, glB, glC]
      (try dsimp only at hSW)
      go_simp
      with_reducible rfl
    (try simp only [glA, glB, glC, Act.put, glD, glE, glF])
    refine wpAnyJ_take 2 (v := ?_) (by first | exact hF | exact wideFn) (hs3) rfl (by kernel_rfl) (by kernel_rfl) (by kernel_rfl) (by kernel_rfl) rfl ?_ (by first | exact fun _ _ _ h => h | exact fun _ _ _ h => hQ2 _ _ _ _ _ h) ?_
    rotate_left
    · intro W hSW
      simp only [glA, glB, glC]
      (try dsimp only at hSW)
      go_simp
      with_reducible rfl
    (try simp only [glA, glB, glC, Act.put, glD, glE, glF])
    refine wpAnyJ_take 3 (v := ?_) (by first | exact hF | exact wideFn) (hs3) rfl (by kernel_rfl) (by kernel_rfl) (by kernel_rfl) (by kernel_rfl) rfl ?_ (by first | exact fun _ _ _ h => h | exact fun _ _ _ h => hQ2 _ _ _ _ _ h) ?_
    rotate_left
    · intro W hSW
      simp only [glA, glB, glC]
      (try dsimp only at hSW)
      go_simp
      with_reducible rfl
    (try simp only [glA, glB, glC, Act.put, glD, glE, glF])
    refine wpAnyJ_skip 4 (by first | exact hF | exact wideFn) (hs3) rfl (by kernel_rfl) (by kernel_rfl) (by kernel_rfl) (by kernel_rfl) rfl (by first | exact fun _ _ _ h => h | exact fun _ _ _ h => hQ2 _ _ _ _ _ h) ?_
    (try simp only [glA, glB, glC, Act.put, glD, glE, glF])
    refine wpAnyJ_skip 5 (by first | exact hF | exact wideFn) (hs3) rfl (by kernel_rfl) (by kernel_rfl) (by kernel_rfl) (by kernel_rfl) rfl (by first | exact fun _ _ _ h => h | exact fun _ _ _ h => hQ2 _ _ _ _ _ h) ?_
    (try simp only [glA, glB, glC, Act.put, glD, glE, glF])
    refine wpAnyJ_skip 6 (by first | exact hF | exact wideFn) (hs3) rfl (by kernel_rfl) (by kernel_rfl) (by kernel_rfl) (by kernel_rfl) rfl (by first | exact fun _ _ _ h => h | exact fun _ _ _ h => hQ2 _ _ _ _ _ h) ?_
    (try simp only [glA, glB, glC, Act.put, glD, glE, glF])
    refine wpAnyJ_skip 7 (by first | exact hF | exact wideFn) (hs3) rfl (by kernel_rfl) (by kernel_rfl) (by kernel_rfl) (by kernel_rfl) rfl (by first | exact fun _ _ _ h => h | exact fun _ _ _ h => hQ2 _ _ _ _ _ h) ?_
    (try simp only [glA, glB, glC, Act.put, glD, glE, glF])
    refine wpAnyJ_skip 8 (by first | exact hF | exact wideFn) (hs3) rfl (by kernel_rfl) (by kernel_rfl) (by kernel_rfl) (by kernel_rfl) rfl (by first | exact fun _ _ _ h => h | exact fun _ _ _ h => hQ2 _ _ _ _ _ h) ?_
    (try simp only [glA, glB, glC, Act.put, glD, glE, glF])
    refine wpAnyJ_skip 9 (by first | exact hF | exact wideFn) (hs3) rfl (by kernel_rfl) (by kernel_rfl) (by kernel_rfl) (by kernel_rfl) rfl (by first | exact fun _ _ _ h => h | exact fun _ _ _ h => hQ2 _ _ _ _ _ h) ?_
    (try simp only [glA, glB, glC, Act.put, glD, glE, glF])
    refine wpAnyJ_skip 10 (by first | exact hF | exact wideFn) (hs3) rfl (by kernel_rfl) (by kernel_rfl) (by kernel_rfl) (by kernel_rfl) rfl (by first | exact fun _ _ _ h => h | exact fun _ _ _ h => hQ2 _ _ _ _ _ h) ?_
    (try simp only [glA, glB, glC, Act.put, glD, glE, glF])
    refine wpAnyJ_skip 11 (by first | exact hF | exact wideFn) (hs3) rfl (by kernel_rfl) (by kernel_rfl) (by kernel_rfl) (by kernel_rfl) rfl (by first | exact fun _ _ _ h => h | exact fun _ _ _ h => hQ2 _ _ _ _ _ h) ?_
    (try simp only [glA, glB, glC, Act.put, glD, glE, glF])
    refine wpAnyJ_skip 12 (by first | exact hF | exact wideFn) (hs3) rfl (by kernel_rfl) (by kernel_rfl) (by kernel_rfl) (by kernel_rfl) rfl (by first | exact fun _ _ _ h => h | exact fun _ _ _ h => hQ2 _ _ _ _ _ h) ?_
    (try simp only [glA, glB, glC, Act.put, glD, glE, glF])
    refine wpAnyJ_skip 13 (by first | exact hF | exact wideFn) (hs3) rfl (by kernel_rfl) (by kernel_rfl) (by kernel_rfl) (by kernel_rfl) rfl (by first | exact fun _ _ _ h => h | exact fun _ _ _ h => hQ2 _ _ _ _ _ h) ?_
    (try simp only [glA, glB, glC, Act.put, glD, glE, glF])
    refine wpAnyJ_skip 14 (by first | exact hF | exact wideFn) (hs3) rfl (by kernel_rfl) (by kernel_rfl) (by kernel_rfl) (by kernel_rfl) rfl (by first | exact fun _ _ _ h => h | exact fun _ _ _ h => hQ2 _ _ _ _ _ h) ?_
    (try simp only [glA, glB, glC, Act.put, glD, glE, glF])
    refine wpAnyJ_take 15 (v := ?_) (by first | exact hF | exact wideFn) (hs3) rfl (by kernel_rfl) (by kernel_rfl) (by kernel_rfl) (by kernel_rfl) rfl ?_ (by first | exact fun _ _ _ h => h | exact fun _ _ _ h => hQ2 _ _ _ _ _ h) ?_
    rotate_left
    · intro W hSW
      simp only [glA, glB, glC]
      (try dsimp only at hSW)
      go_simp
      with_reducible rfl
    (try simp only [glA, glB, glC, Act.put, glD, glE, glF])
    refine wpAnyJ_done (by kernel_rfl) ?_
    have hs5 := hs3.2.2.1
    go_wp2_with fail
    refine (HT.out _ HBE.out).mono ?_
    rintro e w2 ⟨v2, rfl, hX2, hK2, hr2⟩
    have HX2 := hide hX2
    have E2 := hide ((HE1.out.ext HBE.out).kx hK2 HGX.out (fun e => by have := HOWN.out g e.symm; omega))
    have HNE : Hid (some g ≠ v2.ownBlock) := hide (fun e => by
      rcases hr2 with h | h
      · rw [h] at e
        have := HOWN.out g e.symm
        omega
      · have := h g e.symm
        have := HBE.out.size
        omega)
    have HK2 := hide (And.intro hK2 hr2)
    clear hX2 hK2 hr2 hs1 hs3 hs5
    obtain ⟨g0', g0, -⟩ := blk4 E2.out
    obtain ⟨A3, n3, c3, w3, hrun, hb3, hg3, hX3, hK3, hr3⟩ := (HX2.out.ext (Below.refl w2.heap.size w2).drew).push new (by have := HL2.out; omega)
    try dsimp only at hrun
    have E3 := ((E2.out.ext (Below.refl w2.heap.size w2).drew).alloc (.cells #[.string new] 9)).grown hg3 (fun e => HNE.out e)
    have HS7 : Hid (w2.drew.cell? ⟨X, 2, none⟩ = some v2 ∧ w2.drew.cell? ⟨g, 3, none⟩ = some (.string new)) := hide ⟨(blk3 (HX2.out.blk.drew)).2.2.2.1, (blk4 (E2.out.drew)).2.2.2.2⟩
    have HS8 : Hid ((w2.drew.alloc (.cells #[.string new] 9)).cell? ⟨X, 2, none⟩ = some v2 ∧ (w2.drew.alloc (.cells #[.string new] 9)).cell? ⟨g, 3, none⟩ = some (.string new)) := hide ⟨(blk3 (HX2.out.blk.drew.alloc _)).2.2.2.1, (blk4 (E2.out.drew.alloc _)).2.2.2.2⟩
    have HS9 : Hid (w3.cell? ⟨X, 2, none⟩ = some v2 ∧ w3.cell? ⟨g, 3, none⟩ = some (.string new)) := hide ⟨(blk3 hb3).2.2.2.1, (blk4 E3).2.2.2.2⟩
    have HRUN := hide hrun
    have HX3 := hide hX3
    have HK3 := hide (And.intro hK3 hr3)
    have lX := hb3.lt
    have fX := hb3.frozen 2
    have hgX : g ≠ X := HGX.out
    have E4 := hide (E3.far (p := ⟨X, 2, none⟩) hgX (.slice A3 n3 c3))
    clear hrun hX3 hK3 hr3 E3 hg3 hb3
    go_upto_region 7 with fail
    refine wp_region_K (pickS [4, 6] (fun W : World => W.cell? ⟨X, 2, none⟩ = some v2 ∧ W.cell? ⟨g, 3, none⟩ = some (.string new)) (fun _ => True)) (by kernel_rfl) ?_
    refine wpAnyK_take 0 (v := ?_) (by first | exact hF | exact wideFn) trivial rfl (by kernel_rfl) (by kernel_rfl) (by kernel_rfl) (by kernel_rfl) rfl ?_ (by first | exact fun _ _ _ h => h | exact fun _ _ _ h => hQ2 _ _ _ _ _ h) ?_
    rotate_left
    · intro W hSW
      replace hSW : True := hSW
      simp only [glA, glB, glC]
      (try dsimp only at hSW)
      go_simp
      with_reducible rfl
    (try simp only [glA, glB, glC, Act.put, glD, glE, glF])
    refine wpAnyK_take 1 (v := ?_) (by first | exact hF | exact wideFn) trivial rfl (by kernel_rfl) (by kernel_rfl) (by kernel_rfl) (by kernel_rfl) rfl ?_ (by first | exact fun _ _ _ h => h | exact fun _ _ _ h => hQ2 _ _ _ _ _ h) ?_
    rotate_left
    · intro W hSW
      replace hSW : True := hSW
      simp only [glA, glB, glC]
      (try dsimp only at hSW)
      go_simp
      with_reducible rfl
    (try simp only [glA, glB, glC, Act.put, glD, glE, glF])
    refine wpAnyK_take 2 (v := ?_) (by first | exact hF | exact wideFn) trivial rfl (by kernel_rfl) (by kernel_rfl) (by kernel_rfl) (by kernel_rfl) rfl ?_ (by first | exact fun _ _ _ h => h | exact fun _ _ _ h => hQ2 _ _ _ _ _ h) ?_
    rotate_left
    · intro W hSW
      replace hSW : True := hSW
      simp only [glA, glB, glC]
      (try dsimp only at hSW)
      go_simp
      with_reducible rfl
    (try simp only [glA, glB, glC, Act.put, glD, glE, glF])
    refine wpAnyK_take 3 (v := ?_) (by first | exact hF | exact wideFn) trivial rfl (by kernel_rfl) (by kernel_rfl) (by kernel_rfl) (by kernel_rfl) rfl ?_ (by first | exact fun _ _ _ h => h | exact fun _ _ _ h => hQ2 _ _ _ _ _ h) ?_
    rotate_left
    · intro W hSW
      replace hSW : True := hSW
      simp only [glA, glB, glC]
      (try dsimp only at hSW)
      go_simp
      with_reducible rfl
    (try simp only [glA, glB, glC, Act.put, glD, glE, glF])
    refine wpAnyK_take 4 (v := ?_) (by first | exact hF | exact wideFn) (And.intro HS7.out trivial) rfl (by kernel_rfl) (by kernel_rfl) (by kernel_rfl) (by kernel_rfl) rfl ?_ (by first | exact fun _ _ _ h => h | exact fun _ _ _ h => hQ2 _ _ _ _ _ h) ?_
    rotate_left
    · intro W hSW
      replace hSW : ((W.cell? ⟨X, 2, none⟩ = some v2 ∧ W.cell? ⟨g, 3, none⟩ = some (.string new)) ∧ True) := hSW
      simp only [glA, glB, glC]
      (try dsimp only at hSW)
      go_simp
      with_reducible rfl
    (try simp only [glA, glB, glC, Act.put, glD, glE, glF])
    refine wpAnyK_take 5 (v := ?_) (by first | exact hF | exact wideFn) trivial rfl (by kernel_rfl) (by kernel_rfl) (by kernel_rfl) (by kernel_rfl) rfl ?_ (by first | exact fun _ _ _ h => h | exact fun _ _ _ h => hQ2 _ _ _ _ _ h) ?_
    rotate_left
    · intro W hSW
      replace hSW : True := hSW
      simp only [glA, glB, glC]
      (try dsimp only at hSW)
      go_simp
      with_reducible rfl
    (try simp only [glA, glB, glC, Act.put, glD, glE, glF])
    refine wpAnyK_take 6 (v := ?_) (by first | exact hF | exact wideFn) (And.intro HS7.out trivial) rfl (by kernel_rfl) (by kernel_rfl) (by kernel_rfl) (by kernel_rfl) rfl ?_ (by first | exact fun _ _ _ h => h | exact fun _ _ _ h => hQ2 _ _ _ _ _ h) ?_
    rotate_left
    · intro W hSW
      replace hSW : ((W.cell? ⟨X, 2, none⟩ = some v2 ∧ W.cell? ⟨g, 3, none⟩ = some (.string new)) ∧ True) := hSW
      simp only [glA, glB, glC]
      (try dsimp only at hSW)
      go_simp
      with_reducible rfl
    (try simp only [glA, glB, glC, Act.put, glD, glE, glF])
    refine wpAnyK_one 7 rfl (by kernel_rfl) (fun K hK => ?_)
    simp only [glA, glB, glC]
    go_simp
    refine hK.out _ _ (.inr (pickS_all HS8.out trivial)) ?_
    clear hK K
    (try simp only [glA, glB, glC, Act.put, glD, glE, glF])
    refine wpAnyK_one 8 rfl (by kernel_rfl) (fun K hK => ?_)
    rw [if_pos (by rfl)]
    refine wpIn_append_run (.tmp 55) (.tmp 58) 22 (by first | exact hF | exact wideFn) rfl rfl rfl HRUN.out ?_
    refine hK.out _ _ (.inr (pickS_all HS9.out trivial)) ?_
    clear hK K
    (try simp only [glA, glB, glC, Act.put, glD, glE, glF])
    refine wpAnyK_take 9 (v := ?_) (by first | exact hF | exact wideFn) trivial rfl (by kernel_rfl) (by kernel_rfl) (by kernel_rfl) (by kernel_rfl) rfl ?_ (by first | exact fun _ _ _ h => h | exact fun _ _ _ h => hQ2 _ _ _ _ _ h) ?_
    rotate_left
    · intro W hSW
      replace hSW : True := hSW
      simp only [glA, glB, glC]
      (try dsimp only at hSW)
      go_simp
      with_reducible rfl
    (try simp only [glA, glB, glC, Act.put, glD, glE, glF])
    refine wpAnyK_take 10 (v := ?_) (by first | exact hF | exact wideFn) trivial rfl (by kernel_rfl) (by kernel_rfl) (by kernel_rfl) (by kernel_rfl) rfl ?_ (by first | exact fun _ _ _ h => h | exact fun _ _ _ h => hQ2 _ _ _ _ _ h) ?_
    rotate_left
    · intro W hSW
      replace hSW : True := hSW
      simp only [glA, glB, glC]
      (try dsimp only at hSW)
      go_simp
      with_reducible rfl
    (try simp only [glA, glB, glC, Act.put, glD, glE, glF])
    have cX := HS9.out.1
    refine wpAnyK_one 11 rfl (by kernel_rfl) (fun K hK => ?_)
    simp only [glA, glB, glC]
    go_simp
    refine hK.out _ _ (.inr (pickS_need (by kernel_rfl) trivial)) ?_
    clear hK K
    (try simp only [glA, glB, glC, Act.put, glD, glE, glF])
    refine wpAnyK_done (by kernel_rfl) ?_
    clear cX lX fX
    generalize (w3.setCell ⟨X, 2, none⟩ (.slice A3 n3 c3)) = w4 at HX3 HK3 E4 ⊢
    obtain ⟨g0, g1, -⟩ := blk4 E4.out
    go_wp2_with fail
    go_ret
    have hWe : Below W.heap.size W we := HB0.out.trans (HBE.out.mono HB0.out.size)
    have q1 := KX.both (v := v) (v2 := v) (v3 := v2) (KX.of_below X _ hWe) (.inl rfl) HK2.out.1 HK2.out.2
    have q2 : KX w2 w4 X v2.ownBlock := (KX.of_below X v2.ownBlock (Below.refl w2.heap.size w2).drew).trans HK3.out.1 (.inl rfl)
    have q3 := KX.both (v := v) (v2 := v2) (v3 := .slice A3 n3 c3) q1.1 q1.2 q2 HK3.out.2
    rw [hg] at q3
    exact ⟨_, rfl, HX3.out, q3.1, q3.2⟩
  · have k2 : ((t : Int) == (n : Int)) = false := by rw [beq_eq_false_iff_ne]; omega
    have k3 : (t == n) = false := by rw [beq_eq_false_iff_ne]; omega
    clear hta
    go_enter Tryd.func56, Tryd.ntmps56
    go_upto_region 1 with fail
    have HBD := hide ((Below.refl w1.heap.size w1).drew)
    refine wp_region_J (fun W : World => W.cell? ⟨X, 0, none⟩ = some (.slice A n c) ∧ W.cell? ⟨g, 0, none⟩ = some (.int .i64 3) ∧ W.cell? ⟨g, 1, none⟩ = some (.int .i64 (t : Nat)) ∧ W.cell? ⟨g, 2, none⟩ = some (.string old) ∧ W.cell? ⟨g, 3, none⟩ = some (.string new)) (by kernel_rfl) ?_
    generalize w1.drew = wd at HBD ⊢
    have hs1 := HS1.out _ HBD.out
    refine wpAnyJ_take 0 (v := ?_) (by first | exact hF | exact wideFn) (hs1) rfl (by kernel_rfl) (by kernel_rfl) (by kernel_rfl) (by kernel_rfl) rfl ?_ (by first | exact fun _ _ _ h => h | exact fun _ _ _ h => hQ2 _ _ _ _ _ h) ?_
    rotate_left
    · intro W hSW
      simp only [glA, glB, glC]
      (try dsimp only at hSW)
      go_simp
      with_reducible rfl
    (try simp only [glA, glB, glC, Act.put, glD, glE, glF])
    refine wpAnyJ_take 1 (v := ?_) (by first | exact hF | exact wideFn) (hs1) rfl (by kernel_rfl) (by kernel_rfl) (by kernel_rfl) (by kernel_rfl) rfl ?_ (by first | exact fun _ _ _ h => h | exact fun _ _ _ h => hQ2 _ _ _ _ _ h) ?_
    rotate_left
    · intro W hSW
      simp only [glA, glB, glC]
      (try dsimp only at hSW)
      go_simp
      with_reducible rfl
    (try simp only [glA, glB, glC, Act.put, glD, glE, glF])
    refine wpAnyJ_take 2 (v := ?_) (by first | exact hF | exact wideFn) (hs1) rfl (by kernel_rfl) (by kernel_rfl) (by kernel_rfl) (by kernel_rfl) rfl ?_ (by first | exact fun _ _ _ h => h | exact fun _ _ _ h => hQ2 _ _ _ _ _ h) ?_
    rotate_left
    · intro W hSW
      simp only [glA, glB, glC]
      (try dsimp only at hSW)
      go_simp
      with_reducible rfl
    (try simp only [glA, glB, glC, Act.put, glD, glE, glF])
    refine wpAnyJ_take 3 (v := ?_) (by first | exact hF | exact wideFn) (hs1) rfl (by kernel_rfl) (by kernel_rfl) (by kernel_rfl) (by kernel_rfl) rfl ?_ (by first | exact fun _ _ _ h => h | exact fun _ _ _ h => hQ2 _ _ _ _ _ h) ?_
    rotate_left
    · intro W hSW
      simp only [glA, glB, glC]
      (try dsimp only at hSW)
      go_simp
      with_reducible rfl
    (try simp only [glA, glB, glC, Act.put, glD, glE, glF])
    refine wpAnyJ_take 4 (v := ?_) (by first | exact hF | exact wideFn) (hs1) rfl (by kernel_rfl) (by kernel_rfl) (by kernel_rfl) (by kernel_rfl) rfl ?_ (by first | exact fun _ _ _ h => h | exact fun _ _ _ h => hQ2 _ _ _ _ _ h) ?_
    rotate_left
    · intro W hSW
      simp only [glA, glB, glC]
      (try dsimp only at hSW)
      go_simp
      with_reducible rfl
    (try simp only [glA, glB, glC, Act.put, glD, glE, glF])
    refine wpAnyJ_take 5 (v := ?_) (by first | exact hF | exact wideFn) (hs1) rfl (by kernel_rfl) (by kernel_rfl) (by kernel_rfl) (by kernel_rfl) rfl ?_ (by first | exact fun _ _ _ h => h | exact fun _ _ _ h => hQ2 _ _ _ _ _ h) ?_
    rotate_left
    · intro W hSW
      simp only [glA, glB, glC]
      (try dsimp only at hSW)
      go_simp
      with_reducible rfl
    (try simp only [glA, glB, glC, Act.put, glD, glE, glF])
    refine wpAnyJ_take 6 (v := ?_) (by first | exact hF | exact wideFn) (hs1) rfl (by kernel_rfl) (by kernel_rfl) (by kernel_rfl) (by kernel_rfl) rfl ?_ (by first | exact fun _ _ _ h => h | exact fun _ _ _ h => hQ2 _ _ _ _ _ h) ?_
    rotate_left
    · intro W hSW
      simp only [glA, glB, glC]
      (try dsimp only at hSW)
      go_simp
      with_reducible rfl
    (try simp only [glA, glB, glC, Act.put, glD, glE, glF])
    refine wpAnyJ_take 7 (v := ?_) (by first | exact hF | exact wideFn) (hs1) rfl (by kernel_rfl) (by kernel_rfl) (by kernel_rfl) (by kernel_rfl) rfl ?_ (by first | exact fun _ _ _ h => h | exact fun _ _ _ h => hQ2 _ _ _ _ _ h) ?_
    rotate_left
    · intro W hSW
      simp only [glA, glB, glC]
      (try dsimp only at hSW)
      go_simp
      with_reducible rfl
    (try simp only [glA, glB, glC, Act.put, glD, glE, glF])
    refine wpAnyJ_take 8 (v := ?_) (by first | exact hF | exact wideFn) (hs1) rfl (by kernel_rfl) (by kernel_rfl) (by kernel_rfl) (by kernel_rfl) rfl ?_ (by first | exact fun _ _ _ h => h | exact fun _ _ _ h => hQ2 _ _ _ _ _ h) ?_
    rotate_left
    · intro W hSW
      simp only [glA, glB, glC]
      (try dsimp only at hSW)
      go_simp
      with_reducible rfl
    (try simp only [glA, glB, glC, Act.put, glD, glE, glF])
    refine wpAnyJ_take 9 (v := ?_) (by first | exact hF | exact wideFn) (hs1) rfl (by kernel_rfl) (by kernel_rfl) (by kernel_rfl) (by kernel_rfl) rfl ?_ (by first | exact fun _ _ _ h => h | exact fun _ _ _ h => hQ2 _ _ _ _ _ h) ?_
    rotate_left
    · intro W hSW
      simp only [glA, glB, glC]
      (try dsimp only at hSW)
      go_simp
      with_reducible rfl
    (try simp only [glA, glB, glC, Act.put, glD, glE, glF])
    refine wpAnyJ_take 10 (v := ?_) (by first | exact hF | exact wideFn) (hs1) rfl (by kernel_rfl) (by kernel_rfl) (by kernel_rfl) (by kernel_rfl) rfl ?_ (by first | exact fun _ _ _ h => h | exact fun _ _ _ h => hQ2 _ _ _ _ _ h) ?_
    rotate_left
    · intro W hSW
      simp only [glA, glB, glC]
      (try dsimp only at hSW)
      go_simp
      with_reducible rfl
    (try simp only [glA, glB, glC, Act.put, glD, glE, glF])
    refine wpAnyJ_take 11 (v := ?_) (by first | exact hF | exact wideFn) (hs1) rfl (by kernel_rfl) (by kernel_rfl) (by kernel_rfl) (by kernel_rfl) rfl ?_ (by first | exact fun _ _ _ h => h | exact fun _ _ _ h => hQ2 _ _ _ _ _ h) ?_
    rotate_left
    · intro W hSW
      simp only [glA, glB, glC]
      (try dsimp only at hSW)
      go_simp
      with_reducible rfl
    (try simp only [glA, glB, glC, Act.put, glD, glE, glF])
    refine wpAnyJ_take 12 (v := ?_) (by first | exact hF | exact wideFn) (hs1) rfl (by kernel_rfl) (by kernel_rfl) (by kernel_rfl) (by kernel_rfl) rfl ?_ (by first | exact fun _ _ _ h => h | exact fun _ _ _ h => hQ2 _ _ _ _ _ h) ?_
    rotate_left
    · intro W hSW
      simp only [glA, glB, glC]
      (try dsimp only at hSW)
      go_simp
      with_reducible rfl
    (try simp only [glA, glB, glC, Act.put, glD, glE, glF])
    refine wpAnyJ_take 13 (v := ?_) (by first | exact hF | exact wideFn) (hs1) rfl (by kernel_rfl) (by kernel_rfl) (by kernel_rfl) (by kernel_rfl) rfl ?_ (by first | exact fun _ _ _ h => h | exact fun _ _ _ h => hQ2 _ _ _ _ _ h) ?_
    rotate_left
    · intro W hSW
      simp only [glA, glB, glC]
      (try dsimp only at hSW)
      go_simp
      with_reducible rfl
    (try simp only [glA, glB, glC, Act.put, glD, glE, glF])
    refine wpAnyJ_take 14 (v := ?_) (by first | exact hF | exact wideFn) (hs1) rfl (by kernel_rfl) (by kernel_rfl) (by kernel_rfl) (by kernel_rfl) rfl ?_ (by first | exact fun _ _ _ h => h | exact fun _ _ _ h => hQ2 _ _ _ _ _ h) ?_
    rotate_left
    · intro W hSW
      simp only [glA, glB, glC]
      (try dsimp only at hSW)
      go_simp
      with_reducible rfl
    (try simp only [glA, glB, glC, Act.put, glD, glE, glF])
    refine wpAnyJ_take 15 (v := ?_) (by first | exact hF | exact wideFn) (hs1) rfl (by kernel_rfl) (by kernel_rfl) (by kernel_rfl) (by kernel_rfl) rfl ?_ (by first | exact fun _ _ _ h => h | exact fun _ _ _ h => hQ2 _ _ _ _ _ h) ?_
    rotate_left
    · intro W hSW
      simp only [glA, glB, glC]
      (try dsimp only at hSW)
      go_simp
      with_reducible rfl
    (try simp only [glA, glB, glC, Act.put, glD, glE, glF])
    refine wpAnyJ_take 16 (v := ?_) (by first | exact hF | exact wideFn) (hs1) rfl (by kernel_rfl) (by kernel_rfl) (by kernel_rfl) (by kernel_rfl) rfl ?_ (by first | exact fun _ _ _ h => h | exact fun _ _ _ h => hQ2 _ _ _ _ _ h) ?_
    rotate_left
    · intro W hSW
      simp only [glA, glB, glC]
      (try dsimp only at hSW)
      go_simp
      with_reducible rfl
    (try simp only [glA, glB, glC, Act.put, glD, glE, glF])
    refine wpAnyJ_take 17 (v := ?_) (by first | exact hF | exact wideFn) (hs1) rfl (by kernel_rfl) (by kernel_rfl) (by kernel_rfl) (by kernel_rfl) rfl ?_ (by first | exact fun _ _ _ h => h | exact fun _ _ _ h => hQ2 _ _ _ _ _ h) ?_
    rotate_left
    · intro W hSW
      simp only [glA, glB, glC]
      (try dsimp only at hSW)
      go_simp
      with_reducible rfl
    (try simp only [glA, glB, glC, Act.put, glD, glE, glF])
    refine wpAnyJ_skip 18 (by first | exact hF | exact wideFn) (hs1) rfl (by kernel_rfl) (by kernel_rfl) (by kernel_rfl) (by kernel_rfl) rfl (by first | exact fun _ _ _ h => h | exact fun _ _ _ h => hQ2 _ _ _ _ _ h) ?_
    (try simp only [glA, glB, glC, Act.put, glD, glE, glF])
    refine wpAnyJ_skip 19 (by first | exact hF | exact wideFn) (hs1) rfl (by kernel_rfl) (by kernel_rfl) (by kernel_rfl) (by kernel_rfl) rfl (by first | exact fun _ _ _ h => h | exact fun _ _ _ h => hQ2 _ _ _ _ _ h) ?_
    (try simp only [glA, glB, glC, Act.put, glD, glE, glF])
    refine wpAnyJ_skip 20 (by first | exact hF | exact wideFn) (hs1) rfl (by kernel_rfl) (by kernel_rfl) (by kernel_rfl) (by kernel_rfl) rfl (by first | exact fun _ _ _ h => h | exact fun _ _ _ h => hQ2 _ _ _ _ _ h) ?_
    (try simp only [glA, glB, glC, Act.put, glD, glE, glF])
    refine wpAnyJ_take 21 (v := ?_) (by first | exact hF | exact wideFn) (hs1) rfl (by kernel_rfl) (by kernel_rfl) (by kernel_rfl) (by kernel_rfl) rfl ?_ (by first | exact fun _ _ _ h => h | exact fun _ _ _ h => hQ2 _ _ _ _ _ h) ?_
    rotate_left
    · intro W hSW
      simp only [glA, glB, glC]
      (try dsimp only at hSW)
      go_simp
      with_reducible rfl
    (try simp only [glA, glB, glC, Act.put, glD, glE, glF])
    refine wpAnyJ_take 22 (v := ?_) (by first | exact hF | exact wideFn) (hs1) rfl (by kernel_rfl) (by kernel_rfl) (by kernel_rfl) (by kernel_rfl) rfl ?_ (by first | exact fun _ _ _ h => h | exact fun _ _ _ h => hQ2 _ _ _ _ _ h) ?_
    rotate_left
    · intro W hSW
      simp only [glA, glB, glC]
      (try dsimp only at hSW)
      go_simp
      with_reducible rfl
    (try simp only [glA, glB, glC, Act.put, glD, glE, glF])
    refine wpAnyJ_done (by kernel_rfl) ?_
    go_upto_region 3 with fail
    have HBE := hide (HBD.out.trans ((Below.refl wd.heap.size wd).drew.mono HBD.out.size))
    refine wp_region_J (fun W : World => W.cell? ⟨X, 0, none⟩ = some (.slice A n c) ∧ W.cell? ⟨g, 0, none⟩ = some (.int .i64 3) ∧ W.cell? ⟨g, 1, none⟩ = some (.int .i64 (t : Nat)) ∧ W.cell? ⟨g, 2, none⟩ = some (.string old) ∧ W.cell? ⟨g, 3, none⟩ = some (.string new)) (by kernel_rfl) ?_
    generalize wd.drew = we at HBE ⊢
    have hs3 := HS1.out _ HBE.out
    refine wpAnyJ_take 0 (v := ?_) (by first | exact hF | exact wideFn) (hs3) rfl (by kernel_rfl) (by kernel_rfl) (by kernel_rfl) (by kernel_rfl) rfl ?_ (by first | exact fun _ _ _ h => h | exact fun _ _ _ h => hQ2 _ _ _ _ _ h) ?_
    rotate_left
    · intro W hSW
      simp only [glA, glB, glC]
      (try dsimp only at hSW)
      go_simp
      with_reducible rfl
    (try simp only [glA, glB, glC, Act.put, glD, glE, glF])
    refine wpAnyJ_take 1 (v := ?_) (by first | exact hF | exact wideFn) (hs3) rfl (by kernel_rfl) (by kernel_rfl) (by kernel_rfl) (by kernel_rfl) rfl ?_ (by first | exact fun _ _ _ h => h | exact fun _ _ _ h => hQ2 _ _ _ _ _ h) ?_
    rotate_left
    · intro W hSW
      simp only [glA, glB, glC]
      (try dsimp only at hSW)
      go_simp
      with_reducible rfl
    (try simp only [glA, glB, glC, Act.put, glD, glE, glF])
    refine wpAnyJ_take 2 (v := ?_) (by first | exact hF | exact wideFn) (hs3) rfl (by kernel_rfl) (by kernel_rfl) (by kernel_rfl) (by kernel_rfl) rfl ?_ (by first | exact fun _ _ _ h => h | exact fun _ _ _ h => hQ2 _ _ _ _ _ h) ?_
    rotate_left
    · intro W hSW
      simp only [glA, glB, glC]
      (try dsimp only at hSW)
      go_simp
      with_reducible rfl
    (try simp only [glA, glB, glC, Act.put, glD, glE, glF])
    refine wpAnyJ_take 3 (v := ?_) (by first | exact hF | exact wideFn) (hs3) rfl (by kernel_rfl) (by kernel_rfl) (by kernel_rfl) (by kernel_rfl) rfl ?_ (by first | exact fun _ _ _ h => h | exact fun _ _ _ h => hQ2 _ _ _ _ _ h) ?_
    rotate_left
    · intro W hSW
      simp only [glA, glB, glC]
      (try dsimp only at hSW)
      go_simp
      with_reducible rfl
    (try simp only [glA, glB, glC, Act.put, glD, glE, glF])
    refine wpAnyJ_skip 4 (by first | exact hF | exact wideFn) (hs3) rfl (by kernel_rfl) (by kernel_rfl) (by kernel_rfl) (by kernel_rfl) rfl (by first | exact fun _ _ _ h => h | exact fun _ _ _ h => hQ2 _ _ _ _ _ h) ?_
    (try simp only [glA, glB, glC, Act.put, glD, glE, glF])
    refine wpAnyJ_skip 5 (by first | exact hF | exact wideFn) (hs3) rfl (by kernel_rfl) (by kernel_rfl) (by kernel_rfl) (by kernel_rfl) rfl (by first | exact fun _ _ _ h => h | exact fun _ _ _ h => hQ2 _ _ _ _ _ h) ?_
    (try simp only [glA, glB, glC, Act.put, glD, glE, glF])
    refine wpAnyJ_skip 6 (by first | exact hF | exact wideFn) (hs3) rfl (by kernel_rfl) (by kernel_rfl) (by kernel_rfl) (by kernel_rfl) rfl (by first | exact fun _ _ _ h => h | exact fun _ _ _ h => hQ2 _ _ _ _ _ h) ?_
    (try simp only [glA, glB, glC, Act.put, glD, glE, glF])
    refine wpAnyJ_skip 7 (by first | exact hF | exact wideFn) (hs3) rfl (by kernel_rfl) (by kernel_rfl) (by kernel_rfl) (by kernel_rfl) rfl (by first | exact fun _ _ _ h => h | exact fun _ _ _ h => hQ2 _ _ _ _ _ h) ?_
    (try simp only [glA, glB, glC, Act.put, glD, glE, glF])
    refine wpAnyJ_skip 8 (by first | exact hF | exact wideFn) (hs3) rfl (by kernel_rfl) (by kernel_rfl) (by kernel_rfl) (by kernel_rfl) rfl (by first | exact fun _ _ _ h => h | exact fun _ _ _ h => hQ2 _ _ _ _ _ h) ?_
    (try simp only [glA, glB, glC, Act.put, glD, glE, glF])
    refine wpAnyJ_skip 9 (by first | exact hF | exact wideFn) (hs3) rfl (by kernel_rfl) (by kernel_rfl) (by kernel_rfl) (by kernel_rfl) rfl (by first | exact fun _ _ _ h => h | exact fun _ _ _ h => hQ2 _ _ _ _ _ h) ?_
    (try simp only [glA, glB, glC, Act.put, glD, glE, glF])
    refine wpAnyJ_skip 10 (by first | exact hF | exact wideFn) (hs3) rfl (by kernel_rfl) (by kernel_rfl) (by kernel_rfl) (by kernel_rfl) rfl (by first | exact fun _ _ _ h => h | exact fun _ _ _ h => hQ2 _ _ _ _ _ h) ?_
    (try simp only [glA, glB, glC, Act.put, glD, glE, glF])
    refine wpAnyJ_skip 11 (by first | exact hF | exact wideFn) (hs3) rfl (by kernel_rfl) (by kernel_rfl) (by kernel_rfl) (by kernel_rfl) rfl (by first | exact fun _ _ _ h => h | exact fun _ _ _ h => hQ2 _ _ _ _ _ h) ?_
    (try simp only [glA, glB, glC, Act.put, glD, glE, glF])
    refine wpAnyJ_skip 12 (by first | exact hF | exact wideFn) (hs3) rfl (by kernel_rfl) (by kernel_rfl) (by kernel_rfl) (by kernel_rfl) rfl (by first | exact fun _ _ _ h => h | exact fun _ _ _ h => hQ2 _ _ _ _ _ h) ?_
    (try simp only [glA, glB, glC, Act.put, glD, glE, glF])
    refine wpAnyJ_skip 13 (by first | exact hF | exact wideFn) (hs3) rfl (by kernel_rfl) (by kernel_rfl) (by kernel_rfl) (by kernel_rfl) rfl (by first | exact fun _ _ _ h => h | exact fun _ _ _ h => hQ2 _ _ _ _ _ h) ?_
    (try simp only [glA, glB, glC, Act.put, glD, glE, glF])
    refine wpAnyJ_skip 14 (by first | exact hF | exact wideFn) (hs3) rfl (by kernel_rfl) (by kernel_rfl) (by kernel_rfl) (by kernel_rfl) rfl (by first | exact fun _ _ _ h => h | exact fun _ _ _ h => hQ2 _ _ _ _ _ h) ?_
    (try simp only [glA, glB, glC, Act.put, glD, glE, glF])
    refine wpAnyJ_take 15 (v := ?_) (by first | exact hF | exact wideFn) (hs3) rfl (by kernel_rfl) (by kernel_rfl) (by kernel_rfl) (by kernel_rfl) rfl ?_ (by first | exact fun _ _ _ h => h | exact fun _ _ _ h => hQ2 _ _ _ _ _ h) ?_
    rotate_left
    · intro W hSW
      simp only [glA, glB, glC]
      (try dsimp only at hSW)
      go_simp
      with_reducible rfl
    (try simp only [glA, glB, glC, Act.put, glD, glE, glF])
    refine wpAnyJ_done (by kernel_rfl) ?_
    have hs5 := hs3.2.2.1
    go_wp2_with fail
    refine (HT.out _ HBE.out).mono ?_
    rintro e w2 ⟨v2, rfl, hX2, hK2, hr2⟩
    have HX2 := hide hX2
    have E2 := hide ((HE1.out.ext HBE.out).kx hK2 HGX.out (fun e => by have := HOWN.out g e.symm; omega))
    have HNE : Hid (some g ≠ v2.ownBlock) := hide (fun e => by
      rcases hr2 with h | h
      · rw [h] at e
        have := HOWN.out g e.symm
        omega
      · have := h g e.symm
        have := HBE.out.size
        omega)
    have HK2 := hide (And.intro hK2 hr2)
    clear hX2 hK2 hr2 hs1 hs3 hs5
    obtain ⟨g0', g0, -⟩ := blk4 E2.out
    obtain ⟨A3, n3, c3, w3, hrun, hb3, hg3, hX3, hK3, hr3⟩ := (HX2.out.ext (Below.refl w2.heap.size w2).drew).push new (by have := HL2.out; omega)
    try dsimp only at hrun
    have E3 := ((E2.out.ext (Below.refl w2.heap.size w2).drew).alloc (.cells #[.string new] 9)).grown hg3 (fun e => HNE.out e)
    have HS7 : Hid (w2.drew.cell? ⟨X, 2, none⟩ = some v2 ∧ w2.drew.cell? ⟨g, 3, none⟩ = some (.string new)) := hide ⟨(blk3 (HX2.out.blk.drew)).2.2.2.1, (blk4 (E2.out.drew)).2.2.2.2⟩
    have HS8 : Hid ((w2.drew.alloc (.cells #[.string new] 9)).cell? ⟨X, 2, none⟩ = some v2 ∧ (w2.drew.alloc (.cells #[.string new] 9)).cell? ⟨g, 3, none⟩ = some (.string new)) := hide ⟨(blk3 (HX2.out.blk.drew.alloc _)).2.2.2.1, (blk4 (E2.out.drew.alloc _)).2.2.2.2⟩
    have HS9 : Hid (w3.cell? ⟨X, 2, none⟩ = some v2 ∧ w3.cell? ⟨g, 3, none⟩ = some (.string new)) := hide ⟨(blk3 hb3).2.2.2.1, (blk4 E3).2.2.2.2⟩
    have HRUN := hide hrun
    have HX3 := hide hX3
    have HK3 := hide (And.intro hK3 hr3)
    have lX := hb3.lt
    have fX := hb3.frozen 2
    have hgX : g ≠ X := HGX.out
    have E4 := hide (E3.far (p := ⟨X, 2, none⟩) hgX (.slice A3 n3 c3))
    clear hrun hX3 hK3 hr3 E3 hg3 hb3
    go_upto_region 7 with fail
    refine wp_region_K (pickS [4, 6] (fun W : World => W.cell? ⟨X, 2, none⟩ = some v2 ∧ W.cell? ⟨g, 3, none⟩ = some (.string new)) (fun _ => True)) (by kernel_rfl) ?_
    refine wpAnyK_take 0 (v := ?_) (by first | exact hF | exact wideFn) trivial rfl (by kernel_rfl) (by kernel_rfl) (by kernel_rfl) (by kernel_rfl) rfl ?_ (by first | exact fun _ _ _ h => h | exact fun _ _ _ h => hQ2 _ _ _ _ _ h) ?_
    rotate_left
    · intro W hSW
      replace hSW : True := hSW
      simp only [glA, glB, glC]
      (try dsimp only at hSW)
      go_simp
      with_reducible rfl
    (try simp only [glA, glB, glC, Act.put, glD, glE, glF])
    refine wpAnyK_take 1 (v := ?_) (by first | exact hF | exact wideFn) trivial rfl (by kernel_rfl) (by kernel_rfl) (by kernel_rfl) (by kernel_rfl) rfl ?_ (by first | exact fun _ _ _ h => h | exact fun _ _ _ h => hQ2 _ _ _ _ _ h) ?_
    rotate_left
    · intro W hSW
      replace hSW : True := hSW
      simp only [glA, glB, glC]
      (try dsimp only at hSW)
      go_simp
      with_reducible rfl
    (try simp only [glA, glB, glC, Act.put, glD, glE, glF])
    refine wpAnyK_take 2 (v := ?_) (by first | exact hF | exact wideFn) trivial rfl (by kernel_rfl) (by kernel_rfl) (by kernel_rfl) (by kernel_rfl) rfl ?_ (by first | exact fun _ _ _ h => h | exact fun _ _ _ h => hQ2 _ _ _ _ _ h) ?_
    rotate_left
    · intro W hSW
      replace hSW : True := hSW
      simp only [glA, glB, glC]
      (try dsimp only at hSW)
      go_simp
      with_reducible rfl
    (try simp only [glA, glB, glC, Act.put, glD, glE, glF])
    refine wpAnyK_take 3 (v := ?_) (by first | exact hF | exact wideFn) trivial rfl (by kernel_rfl) (by kernel_rfl) (by kernel_rfl) (by kernel_rfl) rfl ?_ (by first | exact fun _ _ _ h => h | exact fun _ _ _ h => hQ2 _ _ _ _ _ h) ?_
    rotate_left
    · intro W hSW
      replace hSW : True := hSW
      simp only [glA, glB, glC]
      (try dsimp only at hSW)
      go_simp
      with_reducible rfl
    (try simp only [glA, glB, glC, Act.put, glD, glE, glF])
    refine wpAnyK_take 4 (v := ?_) (by first | exact hF | exact wideFn) (And.intro HS7.out trivial) rfl (by kernel_rfl) (by kernel_rfl) (by kernel_rfl) (by kernel_rfl) rfl ?_ (by first | exact fun _ _ _ h => h | exact fun _ _ _ h => hQ2 _ _ _ _ _ h) ?_
    rotate_left
    · intro W hSW
      replace hSW : ((W.cell? ⟨X, 2, none⟩ = some v2 ∧ W.cell? ⟨g, 3, none⟩ = some (.string new)) ∧ True) := hSW
      simp only [glA, glB, glC]
      (try dsimp only at hSW)
      go_simp
      with_reducible rfl
    (try simp only [glA, glB, glC, Act.put, glD, glE, glF])
    refine wpAnyK_take 5 (v := ?_) (by first | exact hF | exact wideFn) trivial rfl (by kernel_rfl) (by kernel_rfl) (by kernel_rfl) (by kernel_rfl) rfl ?_ (by first | exact fun _ _ _ h => h | exact fun _ _ _ h => hQ2 _ _ _ _ _ h) ?_
    rotate_left
    · intro W hSW
      replace hSW : True := hSW
      simp only [glA, glB, glC]
      (try dsimp only at hSW)
      go_simp
      with_reducible rfl
    (try simp only [glA, glB, glC, Act.put, glD, glE, glF])
    refine wpAnyK_take 6 (v := ?_) (by first | exact hF | exact wideFn) (And.intro HS7.out trivial) rfl (by kernel_rfl) (by kernel_rfl) (by kernel_rfl) (by kernel_rfl) rfl ?_ (by first | exact fun _ _ _ h => h | exact fun _ _ _ h => hQ2 _ _ _ _ _ h) ?_
    rotate_left
    · intro W hSW
      replace hSW : ((W.cell? ⟨X, 2, none⟩ = some v2 ∧ W.cell? ⟨g, 3, none⟩ = some (.string new)) ∧ True) := hSW
      simp only [glA, glB, glC]
      (try dsimp only at hSW)
      go_simp
      with_reducible rfl
    (try simp only [glA, glB, glC, Act.put, glD, glE, glF])
    refine wpAnyK_one 7 rfl (by kernel_rfl) (fun K hK => ?_)
    simp only [glA, glB, glC]
    go_simp
    refine hK.out _ _ (.inr (pickS_all HS8.out trivial)) ?_
    clear hK K
    (try simp only [glA, glB, glC, Act.put, glD, glE, glF])
    refine wpAnyK_one 8 rfl (by kernel_rfl) (fun K hK => ?_)
    rw [if_pos (by rfl)]
    refine wpIn_append_run (.tmp 55) (.tmp 58) 22 (by first | exact hF | exact wideFn) rfl rfl rfl HRUN.out ?_
    refine hK.out _ _ (.inr (pickS_all HS9.out trivial)) ?_
    clear hK K
    (try simp only [glA, glB, glC, Act.put, glD, glE, glF])
    refine wpAnyK_take 9 (v := ?_) (by first | exact hF | exact wideFn) trivial rfl (by kernel_rfl) (by kernel_rfl) (by kernel_rfl) (by kernel_rfl) rfl ?_ (by first | exact fun _ _ _ h => h | exact fun _ _ _ h => hQ2 _ _ _ _ _ h) ?_
    rotate_left
    · intro W hSW
      replace hSW : True := hSW
      simp only [glA, glB, glC]
      (try dsimp only at hSW)
      go_simp
      with_reducible rfl
    (try simp only [glA, glB, glC, Act.put, glD, glE, glF])
    refine wpAnyK_take 10 (v := ?_) (by first | exact hF | exact wideFn) trivial rfl (by kernel_rfl) (by kernel_rfl) (by kernel_rfl) (by kernel_rfl) rfl ?_ (by first | exact fun _ _ _ h => h | exact fun _ _ _ h => hQ2 _ _ _ _ _ h) ?_
    rotate_left
    · intro W hSW
      replace hSW : True := hSW
      simp only [glA, glB, glC]
      (try dsimp only at hSW)
      go_simp
      with_reducible rfl
    (try simp only [glA, glB, glC, Act.put, glD, glE, glF])
    have cX := HS9.out.1
    refine wpAnyK_one 11 rfl (by kernel_rfl) (fun K hK => ?_)
    simp only [glA, glB, glC]
    go_simp
    refine hK.out _ _ (.inr (pickS_need (by kernel_rfl) trivial)) ?_
    clear hK K
    (try simp only [glA, glB, glC, Act.put, glD, glE, glF])
    refine wpAnyK_done (by kernel_rfl) ?_
    clear cX lX fX
    generalize (w3.setCell ⟨X, 2, none⟩ (.slice A3 n3 c3)) = w4 at HX3 HK3 E4 ⊢
    obtain ⟨g0, g1, -⟩ := blk4 E4.out
    go_wp2_with fail
    go_ret
    have hWe : Below W.heap.size W we := HB0.out.trans (HBE.out.mono HB0.out.size)
    have q1 := KX.both (v := v) (v2 := v) (v3 := v2) (KX.of_below X _ hWe) (.inl rfl) HK2.out.1 HK2.out.2
    have q2 : KX w2 w4 X v2.ownBlock := (KX.of_below X v2.ownBlock (Below.refl w2.heap.size w2).drew).trans HK3.out.1 (.inl rfl)
    have q3 := KX.both (v := v) (v2 := v2) (v3 := .slice A3 n3 c3) q1.1 q1.2 q2 HK3.out.2
    rw [hg] at q3
    exact ⟨_, rfl, HX3.out, q3.1, q3.2⟩
end Go.Proofs.YtmpegkojencbjaaDoor
/- School: lists of ints that are read; slices.Equal at ints. -/
namespace Go.Proofs.YtmpegkojencbjaaDoor
open List renaming getElem_toArray → glA, getElem_cons_zero → glB, getElem_cons_succ → glC, setIfInBounds_toArray → glD, set_cons_zero → glE, set_cons_succ → glF
open Go Go.RowKit Go.Shelf
set_option maxHeartbeats 2000000
set_option maxRecDepth 100000
/-- a list of ints that is read -/
def LI (w : World) (B : Nat) (A : Option Addr) (l : List Int) : Prop := ER w B 1 A l.length fun k _ => .int .i64 (l.getD k 0)
theorem getD_allI {l m : List Int} (hl : l.length = m.length) (h : ∀ k, k < l.length → l.getD k 0 = m.getD k 0) : l = m := by
  apply List.ext_getElem hl
  intro k h1 h2
  have := h k h1
  rwa [List.getD_eq_getElem?_getD, List.getD_eq_getElem?_getD, List.getElem?_eq_getElem h1, List.getElem?_eq_getElem h2] at this
theorem equalI_any (A B : Option Addr) (c d : Nat) (l m : List Int) (w : World) (hl : l.length ≤ maxLen) (hA : LI w w.heap.size A l) (hB : LI w w.heap.size B m) :
    Calls Tryd.prog 65 #[.slice A l.length c, .slice B m.length d] w fun e w' => e = .returned (.bool (decide (l = m))) ∧ Below w.heap.size w w' := by
  unfold maxLen at hl
  have HA := hide hA
  have HB := hide hB
  clear hA hB
  by_cases hlm : l.length = m.length
  · obtain ⟨n, hn⟩ : ∃ n, l.length = n := ⟨_, rfl⟩
    have hm : m.length = n := by omega
    have HN := hide (And.intro hn hm)
    rw [hn] at hl
    rw [hn, hm]
    clear hlm hn hm
    go_enter Tryd.func65, Tryd.ntmps65
    go_wp2_with fail
    go_loopw [13] (fun i wr => ∃ k : Nat, k ≤ n ∧ i = .int .i64 k ∧ (∀ j, j < k → l.getD j 0 = m.getD j 0) ∧ Below w.heap.size w wr) (fun i _ => n - (intOf i).toNat)
    case atStart => exact ⟨0, Nat.zero_le _, rfl, fun j hj => absurd hj (by omega), Below.refl _ _⟩
    case round =>
      obtain ⟨k, hk, rfl, hx, hbw⟩ := hrel
      have HX := hide hx
      have HBW := hide hbw
      clear hx
      by_cases hlt : k < n
      · have hlt' : (k : Int) < (n : Int) := by omega
        have i0 : (0 : Int) ≤ (k : Int) := by omega
        obtain ⟨x, he⟩ : ∃ e, l.getD k 0 = e := ⟨_, rfl⟩
        obtain ⟨y, hf⟩ : ∃ f, m.getD k 0 = f := ⟨_, rfl⟩
        obtain ⟨xb, xo, rfl, hxb, a0⟩ := VR1.at_ HA.out (by rw [HN.out.1]; exact hlt)
        obtain ⟨yb, yo, rfl, hyb, b0⟩ := VR1.at_ HB.out (by rw [HN.out.2]; exact hlt)
        rw [he] at a0
        rw [hf] at b0
        have HE := hide (And.intro he hf)
        clear he hf
        have HS : Hid (∀ W, Below w.heap.size w W → W.cell? ⟨xb, xo + k, none⟩ = some (.int .i64 x) ∧ W.cell? ⟨yb, yo + k, none⟩ = some (.int .i64 y)) := hide fun W h =>
          ⟨(h.cell (p := ⟨xb, xo + k, none⟩) hxb).trans a0, (h.cell (p := ⟨yb, yo + k, none⟩) hyb).trans b0⟩
        clear a0 b0 hbw
        go_upto_region 6 with fail
        have Bd := hide (HBW.out.trans ((Below.refl wr.heap.size wr).drew.mono HBW.out.size))
        refine wp_region_J (fun W : World => W.cell? ⟨xb, xo + k, none⟩ = some (.int .i64 x) ∧ W.cell? ⟨yb, yo + k, none⟩ = some (.int .i64 y)) (by kernel_rfl) ?_
        generalize wr.drew = wd at Bd ⊢
        refine wpAnyJ_take 0 (v := ?_) (by first | exact hF | exact wideFn) (HS.out _ Bd.out) rfl (by kernel_rfl) (by kernel_rfl) (by kernel_rfl) (by kernel_rfl) rfl ?_ (by first | exact fun _ _ _ h => h | exact fun _ _ _ h => hQ2 _ _ _ _ _ h) ?_
        rotate_left
        · intro W hSW
          simp only [glA, glB, glC]
          (try dsimp only at hSW)
          go_simp
          with_reducible rfl
        (try simp only [glA, glB, glC, Act.put, glD, glE, glF])
        refine wpAnyJ_take 1 (v := ?_) (by first | exact hF | exact wideFn) (HS.out _ Bd.out) rfl (by kernel_rfl) (by kernel_rfl) (by kernel_rfl) (by kernel_rfl) rfl ?_ (by first | exact fun _ _ _ h => h | exact fun _ _ _ h => hQ2 _ _ _ _ _ h) ?_
        rotate_left
        · intro W hSW
          simp only [glA, glB, glC]
          (try dsimp only at hSW)
          go_simp
          with_reducible rfl
        (try simp only [glA, glB, glC, Act.put, glD, glE, glF])
        refine wpAnyJ_take 2 (v := ?_) (by first | exact hF | exact wideFn) (HS.out _ Bd.out) rfl (by kernel_rfl) (by kernel_rfl) (by kernel_rfl) (by kernel_rfl) rfl ?_ (by first | exact fun _ _ _ h => h | exact fun _ _ _ h => hQ2 _ _ _ _ _ h) ?_
        rotate_left
        · intro W hSW
          simp only [glA, glB, glC]
          (try dsimp only at hSW)
          go_simp
          with_reducible rfl
        (try simp only [glA, glB, glC, Act.put, glD, glE, glF])
        refine wpAnyJ_take 3 (v := ?_) (by first | exact hF | exact wideFn) (HS.out _ Bd.out) rfl (by kernel_rfl) (by kernel_rfl) (by kernel_rfl) (by kernel_rfl) rfl ?_ (by first | exact fun _ _ _ h => h | exact fun _ _ _ h => hQ2 _ _ _ _ _ h) ?_
        rotate_left
        · intro W hSW
          simp only [glA, glB, glC]
          (try dsimp only at hSW)
          go_simp
          with_reducible rfl
        (try simp only [glA, glB, glC, Act.put, glD, glE, glF])
        refine wpAnyJ_take 4 (v := ?_) (by first | exact hF | exact wideFn) (HS.out _ Bd.out) rfl (by kernel_rfl) (by kernel_rfl) (by kernel_rfl) (by kernel_rfl) rfl ?_ (by first | exact fun _ _ _ h => h | exact fun _ _ _ h => hQ2 _ _ _ _ _ h) ?_
        rotate_left
        · intro W hSW
          simp only [glA, glB, glC]
          (try dsimp only at hSW)
          go_simp
          with_reducible rfl
        (try simp only [glA, glB, glC, Act.put, glD, glE, glF])
        refine wpAnyJ_take 5 (v := ?_) (by first | exact hF | exact wideFn) (HS.out _ Bd.out) rfl (by kernel_rfl) (by kernel_rfl) (by kernel_rfl) (by kernel_rfl) rfl ?_ (by first | exact fun _ _ _ h => h | exact fun _ _ _ h => hQ2 _ _ _ _ _ h) ?_
        rotate_left
        · intro W hSW
          simp only [glA, glB, glC]
          (try dsimp only at hSW)
          go_simp
          with_reducible rfl
        (try simp only [glA, glB, glC, Act.put, glD, glE, glF])
        refine wpAnyJ_take 6 (v := ?_) (by first | exact hF | exact wideFn) (HS.out _ Bd.out) rfl (by kernel_rfl) (by kernel_rfl) (by kernel_rfl) (by kernel_rfl) rfl ?_ (by first | exact fun _ _ _ h => h | exact fun _ _ _ h => hQ2 _ _ _ _ _ h) ?_
        rotate_left
        · intro W hSW
          simp only [glA, glB, glC]
          (try dsimp only at hSW)
          go_simp
          with_reducible rfl
        (try simp only [glA, glB, glC, Act.put, glD, glE, glF])
        refine wpAnyJ_take 7 (v := ?_) (by first | exact hF | exact wideFn) (HS.out _ Bd.out) rfl (by kernel_rfl) (by kernel_rfl) (by kernel_rfl) (by kernel_rfl) rfl ?_ (by first | exact fun _ _ _ h => h | exact fun _ _ _ h => hQ2 _ _ _ _ _ h) ?_
        rotate_left
        · intro W hSW
          simp only [glA, glB, glC]
          (try dsimp only at hSW)
          go_simp
          with_reducible rfl
        (try simp only [glA, glB, glC, Act.put, glD, glE, glF])
        refine wpAnyJ_take 8 (v := ?_) (by first | exact hF | exact wideFn) (HS.out _ Bd.out) rfl (by kernel_rfl) (by kernel_rfl) (by kernel_rfl) (by kernel_rfl) rfl ?_ (by first | exact fun _ _ _ h => h | exact fun _ _ _ h => hQ2 _ _ _ _ _ h) ?_
        rotate_left
        · intro W hSW
          simp only [glA, glB, glC]
          (try dsimp only at hSW)
          go_simp
          with_reducible rfl
        (try simp only [glA, glB, glC, Act.put, glD, glE, glF])
        refine wpAnyJ_done (by kernel_rfl) ?_
        by_cases q : x = y
        · subst q
          go_wp2_with fail
          go_roundw
          case rel => exact ⟨k + 1, by omega, by go_num, fun j hj => by
            rcases (by omega : j < k ∨ j = k) with h | h
            · exact HX.out j h
            · rw [h, HE.out.1, HE.out.2], Bd.out⟩
          case measure => simp [intOf]; omega
        · have q1 : (x == y) = false := by rw [beq_eq_false_iff_ne]; exact q
          have q2 : (x != y) = true := by simp [q]
          go_wp2_with fail
          go_ret
          refine ⟨ret_bool ?_, Bd.out⟩
          have hne : ¬ l = m := fun e => by
            have h1 := HE.out.1
            rw [e, HE.out.2] at h1
            exact q h1.symm
          simp [hne]
      · obtain rfl : k = n := by omega
        go_wp2_with fail
        go_ret
        refine ⟨ret_bool ?_, HBW.out⟩
        have : l = m := getD_allI (by rw [HN.out.1, HN.out.2]) (by rw [HN.out.1]; exact HX.out)
        simp [this]
  · have hne : ¬ ((l.length : Int) = (m.length : Int)) := by omega
    have hd : decide (l = m) = false := by
      rw [decide_eq_false_iff_not]; intro h; exact hlm (by rw [h])
    rw [hd]
    clear hd
    generalize l.length = n1 at *
    generalize m.length = n2 at *
    go_enter Tryd.func65, Tryd.ntmps65
    go_wp2_with fail
    go_ret
    exact ⟨rfl, Below.refl _ _⟩
end Go.Proofs.YtmpegkojencbjaaDoor
/- School: the best reading of a parent. -/
namespace Go.Proofs.YtmpegkojencbjaaDoor
open List renaming getElem_toArray → glA, getElem_cons_zero → glB, getElem_cons_succ → glC, setIfInBounds_toArray → glD, set_cons_zero → glE, set_cons_succ → glF
open Go Go.RowKit Go.Shelf
set_option maxHeartbeats 2000000
set_option maxRecDepth 100000
/-- what reading k costs where the copy has v -/
def cstF (t : Nat → Int) (v : Int) (k : Nat) : Int := if (k : Int) = v then t k else t k + 1
/-- the first reading that costs least, of the first n, and what it costs -/
def bestF (t : Nat → Int) (v : Int) : Nat → Int × Int
  | 0 => (0, 1000000)
  | n + 1 => if cstF t v n < (bestF t v n).2 then ((n : Int), cstF t v n) else bestF t v n
theorem best_any (B o : Nat) (t : Nat → Int) (v : Int) (w : World) (hB : B < w.heap.size) (hc : ∀ k, k < 16 → w.cell? ⟨B, o + k, none⟩ = some (.int .i64 (t k))) (ht : ∀ k, k < 16 → 0 ≤ t k ∧ t k ≤ 1000000000000) :
    Calls Tryd.prog 60 #[.pointer (some ⟨B, o, none⟩), .int .i64 v] w fun e w' => e = .returned (.tuple #[.int .i64 (bestF t v 16).1, .int .i64 (bestF t v 16).2]) ∧ Below w.heap.size w w' := by
  have HC := hide hc
  have HT := hide ht
  clear hc ht
  go_enter Tryd.func60, Tryd.ntmps60
  go_wp2_with fail
  go_loopw [4, 5, 9] (fun a b i wr => ∃ k : Nat, k ≤ 16 ∧ i = .int .i64 k ∧ a = .int .i64 (bestF t v k).1 ∧ b = .int .i64 (bestF t v k).2 ∧ Below w.heap.size w wr) (fun _ _ i _ => 16 - (intOf i).toNat)
  case atStart => exact ⟨0, by omega, rfl, rfl, rfl, Below.refl _ _⟩
  case round =>
    obtain ⟨k, hk, rfl, rfl, rfl, hb⟩ := hrel
    have HBW := hide hb
    clear hb
    by_cases hlt : k < 16
    · have hlt' : (k : Int) < 16 := by omega
      have k0 : (0 : Int) ≤ (k : Int) := by omega
      have hx0 := HC.out k hlt
      have ht0 := HT.out k hlt
      obtain ⟨x, hx⟩ : ∃ x, t k = x := ⟨_, rfl⟩
      rw [hx] at hx0 ht0
      have HS : Hid (∀ W, Below w.heap.size w W → W.cell? ⟨B, o + k, none⟩ = some (.int .i64 x)) := hide fun W h => (h.cell (p := ⟨B, o + k, none⟩) hB).trans hx0
      have hstep : bestF t v (k + 1) = if cstF t v k < (bestF t v k).2 then ((k : Int), cstF t v k) else bestF t v k := rfl
      have hcst : cstF t v k = if (k : Int) = v then x else x + 1 := by unfold cstF; rw [hx]
      obtain ⟨⟨pa, pc⟩, hp⟩ : ∃ p, bestF t v k = p := ⟨_, rfl⟩
      rw [hp] at hstep ⊢
      rw [hcst] at hstep
      have w1 : IntKind.i64.wrap (x + 1) = x + 1 := IntWalk.i64_in _ (by omega)
      have HST := hide hstep
      clear hstep hcst hx hx0 hp
      go_upto_region 4 with fail
      have Bd := hide (HBW.out.trans ((Below.refl wr.heap.size wr).drew.mono HBW.out.size))
      refine wp_region_J (fun W : World => W.cell? ⟨B, o + k, none⟩ = some (.int .i64 x)) (by kernel_rfl) ?_
      generalize wr.drew = wd at Bd ⊢
      refine wpAnyJ_take 0 (v := ?_) (by first | exact hF | exact wideFn) (HS.out _ Bd.out) rfl (by kernel_rfl) (by kernel_rfl) (by kernel_rfl) (by kernel_rfl) rfl ?_ (by first | exact fun _ _ _ h => h | exact fun _ _ _ h => hQ2 _ _ _ _ _ h) ?_
      rotate_left
      · intro W hSW
        simp only [glA, glB, glC]
        (try dsimp only at hSW)
        go_simp
        with_reducible rfl
      (try simp only [glA, glB, glC, Act.put, glD, glE, glF])
      refine wpAnyJ_take 1 (v := ?_) (by first | exact hF | exact wideFn) (HS.out _ Bd.out) rfl (by kernel_rfl) (by kernel_rfl) (by kernel_rfl) (by kernel_rfl) rfl ?_ (by first | exact fun _ _ _ h => h | exact fun _ _ _ h => hQ2 _ _ _ _ _ h) ?_
      rotate_left
      · intro W hSW
        simp only [glA, glB, glC]
        (try dsimp only at hSW)
        go_simp
        with_reducible rfl
      (try simp only [glA, glB, glC, Act.put, glD, glE, glF])
      refine wpAnyJ_take 2 (v := ?_) (by first | exact hF | exact wideFn) (HS.out _ Bd.out) rfl (by kernel_rfl) (by kernel_rfl) (by kernel_rfl) (by kernel_rfl) rfl ?_ (by first | exact fun _ _ _ h => h | exact fun _ _ _ h => hQ2 _ _ _ _ _ h) ?_
      rotate_left
      · intro W hSW
        simp only [glA, glB, glC]
        (try dsimp only at hSW)
        go_simp
        with_reducible rfl
      (try simp only [glA, glB, glC, Act.put, glD, glE, glF])
      refine wpAnyJ_take 3 (v := ?_) (by first | exact hF | exact wideFn) (HS.out _ Bd.out) rfl (by kernel_rfl) (by kernel_rfl) (by kernel_rfl) (by kernel_rfl) rfl ?_ (by first | exact fun _ _ _ h => h | exact fun _ _ _ h => hQ2 _ _ _ _ _ h) ?_
      rotate_left
      · intro W hSW
        simp only [glA, glB, glC]
        (try dsimp only at hSW)
        go_simp
        with_reducible rfl
      (try simp only [glA, glB, glC, Act.put, glD, glE, glF])
      refine wpAnyJ_take 4 (v := ?_) (by first | exact hF | exact wideFn) (HS.out _ Bd.out) rfl (by kernel_rfl) (by kernel_rfl) (by kernel_rfl) (by kernel_rfl) rfl ?_ (by first | exact fun _ _ _ h => h | exact fun _ _ _ h => hQ2 _ _ _ _ _ h) ?_
      rotate_left
      · intro W hSW
        simp only [glA, glB, glC]
        (try dsimp only at hSW)
        go_simp
        with_reducible rfl
      (try simp only [glA, glB, glC, Act.put, glD, glE, glF])
      refine wpAnyJ_take 5 (v := ?_) (by first | exact hF | exact wideFn) (HS.out _ Bd.out) rfl (by kernel_rfl) (by kernel_rfl) (by kernel_rfl) (by kernel_rfl) rfl ?_ (by first | exact fun _ _ _ h => h | exact fun _ _ _ h => hQ2 _ _ _ _ _ h) ?_
      rotate_left
      · intro W hSW
        simp only [glA, glB, glC]
        (try dsimp only at hSW)
        go_simp
        with_reducible rfl
      (try simp only [glA, glB, glC, Act.put, glD, glE, glF])
      refine wpAnyJ_done (by kernel_rfl) ?_
      by_cases hv : (k : Int) = v
      · have v1 : ((k : Int) == v) = true := by rw [hv]; exact beq_self_eq_true _
        have v2 : ((k : Int) != v) = false := by rw [hv]; exact bne_self_eq_false _
        have HV := hide hv
        clear hv
        by_cases hx : x < pc
        · have hnew : bestF t v (k + 1) = ((k : Int), x) := by rw [HST.out, if_pos HV.out, if_pos hx]
          have HNEW := hide hnew
          clear hnew
          go_wp2_with fail
          go_roundw
          case rel => exact ⟨k + 1, by omega, by go_num, by rw [HNEW.out], by rw [HNEW.out], Bd.out⟩
          case measure => simp [intOf]; omega
        · have hnew : bestF t v (k + 1) = (pa, pc) := by rw [HST.out, if_pos HV.out, if_neg hx]
          have HNEW := hide hnew
          clear hnew
          go_wp2_with fail
          go_roundw
          case rel => exact ⟨k + 1, by omega, by go_num, by rw [HNEW.out], by rw [HNEW.out], Bd.out⟩
          case measure => simp [intOf]; omega
      · have v1 : ((k : Int) == v) = false := by rw [beq_eq_false_iff_ne]; exact hv
        have v2 : ((k : Int) != v) = true := by simp [hv]
        have HV := hide hv
        by_cases hx : x + 1 < pc
        · have hnew : bestF t v (k + 1) = ((k : Int), x + 1) := by rw [HST.out, if_neg HV.out, if_pos hx]
          have HNEW := hide hnew
          clear hnew
          go_wp2_with fail
          go_roundw
          case rel => exact ⟨k + 1, by omega, by go_num, by rw [HNEW.out], by rw [HNEW.out], Bd.out⟩
          case measure => simp [intOf]; omega
        · have hnew : bestF t v (k + 1) = (pa, pc) := by rw [HST.out, if_neg HV.out, if_neg hx]
          have HNEW := hide hnew
          clear hnew
          go_wp2_with fail
          go_roundw
          case rel => exact ⟨k + 1, by omega, by go_num, by rw [HNEW.out], by rw [HNEW.out], Bd.out⟩
          case measure => simp [intOf]; omega
    · obtain rfl : k = 16 := by omega
      go_wp2_with fail
      go_ret2
      exact ⟨rfl, HBW.out⟩
end Go.Proofs.YtmpegkojencbjaaDoor
/- School: own lists of intJ; slices.Clone. -/
namespace Go.Proofs.YtmpegkojencbjaaDoor
open Go Go.RowKit Go.Shelf
set_option maxHeartbeats 2000000
set_option maxRecDepth 100000
theorem info_int' : (Tryd.prog.info? 3).map (fun i => (i.zero, i.size, i.bytes)) = some (some (.int .i64 0), 1, 8) := by kernel_rfl
def intJ (l : List Int) : List Value := l.map (.int .i64)
theorem intJ_one (l : List Int) : ∀ u ∈ intJ l, u.oneCell' = true := by
  intro u hu
  obtain ⟨x, -, rfl⟩ := List.mem_map.1 hu
  rfl
theorem intJ_len (l : List Int) : (intJ l).length = l.length := by simp [intJ]
theorem intJ_append (l m : List Int) : intJ (l ++ m) = intJ l ++ intJ m := by simp [intJ]
/-- an own list of intJ -/
def OwnJ (W : World) (n0 : Nat) (v : Value) (l : List Int) : Prop := W.ownsRow n0 3 1 v l.length (intJ l)
theorem OwnJ.nil (W : World) (n0 : Nat) : OwnJ W n0 (.slice none 0 0) [] := ⟨rfl, .inl ⟨rfl, rfl⟩⟩
theorem OwnJ.ext {W W' : World} {n0 : Nat} {v : Value} {l : List Int} (h : OwnJ W n0 v l) (hb : Below W.heap.size W W') : OwnJ W' n0 v l := ownBelow h hb
theorem intJ_at (l : List Int) {k : Nat} (hk : k < l.length) : (intJ l)[k]? = some (.int .i64 (l.getD k 0)) := by
  unfold intJ
  rw [List.getElem?_map, List.getElem?_eq_getElem hk, List.getD_eq_getElem?_getD, List.getElem?_eq_getElem hk]; rfl
theorem OwnJ.pushes {W : World} {base : Nat} {v : Value} {l : List Int} (h : OwnJ W base v l) (A : Option Addr) (c : Nat) (m : List Int) (hA : LI W W.heap.size A m) (hl : l.length + m.length ≤ 1000000) (hb : base ≤ W.heap.size) :
    ∃ v' w', (Builtin.append_ #[36, 36] 36 #[v, .slice A m.length c]).run Tryd.prog W = .ok v' w' ∧ OwnJ w' base v' (l ++ m) ∧ W.grownBy w' v.ownBlock ∧ (v'.ownBlock = v.ownBlock ∨ v'.ownBlock = some W.heap.size) := by
  obtain ⟨i0, hi, hz0, hz1, hz2⟩ := info_parts info_int'
  cases A with
  | none =>
    have hm : m = [] := by
      rcases hm : m with _ | ⟨x, m⟩
      · rfl
      · exfalso
        obtain ⟨b, off, hA, -⟩ := hA (by rw [hm]; simp)
        cases hA
    subst hm
    refine ⟨v, W, run_append_none0 (P := Tryd.prog) _ _ 3 i0 1 Tryd.underlying36 hi v l.length c (intJ l) h, by simpa using h, World.grownBy.refl _ _, .inl rfl⟩
  | some a =>
    have hcells : ∀ j u, (intJ m)[j]? = some u → W.cell? (a.add j) = some u := by
      intro j u hj
      have hlt : j < m.length := by
        have := (List.getElem?_eq_some_iff.1 hj).1
        rwa [intJ_len] at this
      obtain ⟨b, off, hA', -, hc⟩ := VR1.at_ hA hlt
      injection hA' with hA'
      subst hA'
      rw [intJ_at m hlt] at hj
      have e4 : ((⟨b, off, none⟩ : Addr).add j) = ⟨b, off + j, none⟩ := by simp [Addr.add]
      rw [e4, ← hj]
      exact hc
    obtain ⟨v', w', hr, h2, h3, -, h4⟩ := run_append_own_at (P := Tryd.prog) (w := W) base 36 36 3 i0 _ 1 8 Tryd.underlying36 hi hz0 hz1 hz2 rfl (by decide) v l.length (intJ l) h
      a m.length c (intJ m) (by rw [intJ_len]; omega) hcells (intJ_one m) (by unfold maxLen; omega) (by omega) hb
    refine ⟨v', w', hr, ?_, h3, h4⟩
    unfold OwnJ
    rw [intJ_append, List.length_append]
    exact h2
theorem OwnJ.made0 (W : World) : OwnJ (W.alloc (.cells #[] 3)) W.heap.size (.slice (some ⟨W.heap.size, 0, none⟩) 0 0) [] :=
  World.ownsRow_made W #[] 0 (Nat.le_refl _) (by unfold maxLen; omega) rfl
theorem cloneI_any (A : Option Addr) (c : Nat) (l : List Int) (w : World) (hl : l.length ≤ 100000) (hA : LI w w.heap.size A l) :
    Calls Tryd.prog 66 #[.slice A l.length c] w fun e w' => ∃ v, e = .returned v ∧ OwnJ w' w.heap.size v l ∧ Below w.heap.size w w' := by
  cases A with
  | none =>
    have hn : l = [] := by
      rcases hm : l with _ | ⟨x, m⟩
      · rfl
      · exfalso
        obtain ⟨b, off, hA, -⟩ := hA (by rw [hm]; simp)
        cases hA
    subst hn
    have hnil := fun (W : World) => Lib.run_eql_slice_nil (P := Tryd.prog) W 36 3 none 0 c 0 0 Tryd.underlying36
    go_enter Tryd.func66, Tryd.ntmps66
    go_wp2_with fail
    go_ret
    exact ⟨_, rfl, OwnJ.nil _ _, Below.refl _ _⟩
  | some a =>
    have hB0 : Below w.heap.size w (w.alloc (.cells #[] 3)) := (Below.refl _ _).alloc (Nat.le_refl _) _
    obtain ⟨v', w', hrun, ho, hg, -⟩ := (OwnJ.made0 w).pushes (some a) c l ((hA.below hB0 (Nat.le_refl _)).more hB0.size) (by simp; omega) hB0.size
    rw [List.nil_append] at ho
    have HRUN := hide hrun
    have HO := hide (And.intro ho (hB0.grown hg hB0.size (fun k hk => (World.ownsRow.lt (OwnJ.made0 w) k hk).1)))
    clear hrun ho hg hB0 hA
    generalize l.length = n at HRUN ⊢
    have hnil := fun (W : World) => Lib.run_eql_slice_nil (P := Tryd.prog) W 36 3 (some a) n c 0 0 Tryd.underlying36
    go_enter Tryd.func66, Tryd.ntmps66
    go_wp2_with (at_builtin; refine wpList_append_run rfl (.tmp 5) (.tmp 6) 36 rfl rfl rfl HRUN.out ?_)
    go_ret
    exact ⟨_, rfl, HO.out.1, HO.out.2⟩
end Go.Proofs.YtmpegkojencbjaaDoor
/- School: sets of values: in. -/
namespace Go.Proofs.YtmpegkojencbjaaDoor
open List renaming getElem_toArray → glA, getElem_cons_zero → glB, getElem_cons_succ → glC, setIfInBounds_toArray → glD, set_cons_zero → glE, set_cons_succ → glF
open Go Go.RowKit Go.Shelf
set_option maxHeartbeats 2000000
set_option maxRecDepth 100000
/-- of the first n features no value is in s that is not in t -/
def inTo (s t : Nat → Nat) (n : Nat) : Bool := decide (∀ k, k < n → bits BinOp.andNot IntKind.i64 (s k : Nat) (t k : Nat) = 0)
theorem in_any (s t : Nat → Nat) (w : World) (hs : ∀ k, s k < 65536) (ht : ∀ k, t k < 65536) :
    Calls Tryd.prog 85 #[.agg #[.int .i64 (s 0 : Nat), .int .i64 (s 1 : Nat), .int .i64 (s 2 : Nat), .int .i64 (s 3 : Nat), .int .i64 (s 4 : Nat)], .agg #[.int .i64 (t 0 : Nat), .int .i64 (t 1 : Nat), .int .i64 (t 2 : Nat), .int .i64 (t 3 : Nat), .int .i64 (t 4 : Nat)]] w fun e w' => e = .returned (.bool (inTo s t 5)) ∧ Below w.heap.size w w' := by
  have HB0 := hide (((Below.refl w.heap.size w).alloc (Nat.le_refl _) (.cells #[.int .i64 (s 0 : Nat), .int .i64 (s 1 : Nat), .int .i64 (s 2 : Nat), .int .i64 (s 3 : Nat), .int .i64 (s 4 : Nat)] 122)).alloc (by simp) (.cells #[.int .i64 (t 0 : Nat), .int .i64 (t 1 : Nat), .int .i64 (t 2 : Nat), .int .i64 (t 3 : Nat), .int .i64 (t 4 : Nat)] 122))
  have S1 := hide ((Blk.new w 122 #[.int .i64 (s 0 : Nat), .int .i64 (s 1 : Nat), .int .i64 (s 2 : Nat), .int .i64 (s 3 : Nat), .int .i64 (s 4 : Nat)]).alloc (.cells #[.int .i64 (t 0 : Nat), .int .i64 (t 1 : Nat), .int .i64 (t 2 : Nat), .int .i64 (t 3 : Nat), .int .i64 (t 4 : Nat)] 122))
  have T1 := hide (show Blk _ (w.heap.size + 1) _ _ from by simpa using (Blk.new (w.alloc (.cells #[.int .i64 (s 0 : Nat), .int .i64 (s 1 : Nat), .int .i64 (s 2 : Nat), .int .i64 (s 3 : Nat), .int .i64 (s 4 : Nat)] 122)) 122 #[.int .i64 (t 0 : Nat), .int .i64 (t 1 : Nat), .int .i64 (t 2 : Nat), .int .i64 (t 3 : Nat), .int .i64 (t 4 : Nat)]))
  obtain ⟨w1, hw1⟩ : ∃ w1, (w.alloc (.cells #[.int .i64 (s 0 : Nat), .int .i64 (s 1 : Nat), .int .i64 (s 2 : Nat), .int .i64 (s 3 : Nat), .int .i64 (s 4 : Nat)] 122)).alloc (.cells #[.int .i64 (t 0 : Nat), .int .i64 (t 1 : Nat), .int .i64 (t 2 : Nat), .int .i64 (t 3 : Nat), .int .i64 (t 4 : Nat)] 122) = w1 := ⟨_, rfl⟩
  rw [hw1] at HB0 S1 T1
  have HC : Hid (∀ W, Below w1.heap.size w1 W → ∀ k, k < 5 → W.cell? ⟨w.heap.size, k, none⟩ = some (.int .i64 (s k : Nat)) ∧ W.cell? ⟨w.heap.size + 1, k, none⟩ = some (.int .i64 (t k : Nat))) := hide (fun W h k hk => by
    rw [(S1.out.ext h).cell, (T1.out.ext h).cell]
    rcases (by omega : k = 0 ∨ k = 1 ∨ k = 2 ∨ k = 3 ∨ k = 4) with rfl | rfl | rfl | rfl | rfl <;> exact ⟨rfl, rfl⟩)
  go_enter Tryd.func85, Tryd.ntmps85
  go_upto_region 2 with fail
  go_loopw [6] (fun i wr => ∃ k : Nat, k ≤ 5 ∧ i = .int .i64 k ∧ (∀ j, j < k → bits BinOp.andNot IntKind.i64 (s j : Nat) (t j : Nat) = 0) ∧ Below w1.heap.size w1 wr) (fun i _ => 5 - (intOf i).toNat)
  case atStart => exact ⟨0, by omega, rfl, fun j hj => absurd hj (by omega), Below.refl _ _⟩
  case round =>
    obtain ⟨k, hk, rfl, hx, hb⟩ := hrel
    have HX := hide hx
    clear hx
    have HBW := hide hb
    clear hb
    by_cases hlt : k < 5
    · have hlt' : (k : Int) < 5 := by omega
      have k0 : (0 : Int) ≤ (k : Int) := by omega
      have HS : Hid (∀ W, Below w1.heap.size w1 W → W.cell? ⟨w.heap.size, k, none⟩ = some (.int .i64 (s k : Nat)) ∧ W.cell? ⟨w.heap.size + 1, k, none⟩ = some (.int .i64 (t k : Nat))) := hide (fun W h => HC.out W h k hlt)
      go_upto_region 4 with fail
      have Bd := hide (HBW.out.trans ((Below.refl wr.heap.size wr).drew.mono HBW.out.size))
      refine wp_region_J (fun W : World => W.cell? ⟨w.heap.size, k, none⟩ = some (.int .i64 (s k : Nat)) ∧ W.cell? ⟨w.heap.size + 1, k, none⟩ = some (.int .i64 (t k : Nat))) (by kernel_rfl) ?_
      generalize wr.drew = wd at Bd ⊢
      refine wpAnyJ_take 0 (v := ?_) (by first | exact hF | exact wideFn) (HS.out _ Bd.out) rfl (by kernel_rfl) (by kernel_rfl) (by kernel_rfl) (by kernel_rfl) rfl ?_ (by first | exact fun _ _ _ h => h | exact fun _ _ _ h => hQ2 _ _ _ _ _ h) ?_
      rotate_left
      · intro W hSW
        simp only [glA, glB, glC]
        (try dsimp only at hSW)
        go_simp
        with_reducible rfl
      (try simp only [glA, glB, glC, Act.put, glD, glE, glF])
      refine wpAnyJ_take 1 (v := ?_) (by first | exact hF | exact wideFn) (HS.out _ Bd.out) rfl (by kernel_rfl) (by kernel_rfl) (by kernel_rfl) (by kernel_rfl) rfl ?_ (by first | exact fun _ _ _ h => h | exact fun _ _ _ h => hQ2 _ _ _ _ _ h) ?_
      rotate_left
      · intro W hSW
        simp only [glA, glB, glC]
        (try dsimp only at hSW)
        go_simp
        with_reducible rfl
      (try simp only [glA, glB, glC, Act.put, glD, glE, glF])
      refine wpAnyJ_take 2 (v := ?_) (by first | exact hF | exact wideFn) (HS.out _ Bd.out) rfl (by kernel_rfl) (by kernel_rfl) (by kernel_rfl) (by kernel_rfl) rfl ?_ (by first | exact fun _ _ _ h => h | exact fun _ _ _ h => hQ2 _ _ _ _ _ h) ?_
      rotate_left
      · intro W hSW
        simp only [glA, glB, glC]
        (try dsimp only at hSW)
        go_simp
        with_reducible rfl
      (try simp only [glA, glB, glC, Act.put, glD, glE, glF])
      refine wpAnyJ_take 3 (v := ?_) (by first | exact hF | exact wideFn) (HS.out _ Bd.out) rfl (by kernel_rfl) (by kernel_rfl) (by kernel_rfl) (by kernel_rfl) rfl ?_ (by first | exact fun _ _ _ h => h | exact fun _ _ _ h => hQ2 _ _ _ _ _ h) ?_
      rotate_left
      · intro W hSW
        simp only [glA, glB, glC]
        (try dsimp only at hSW)
        go_simp
        with_reducible rfl
      (try simp only [glA, glB, glC, Act.put, glD, glE, glF])
      refine wpAnyJ_take 4 (v := ?_) (by first | exact hF | exact wideFn) (HS.out _ Bd.out) rfl (by kernel_rfl) (by kernel_rfl) (by kernel_rfl) (by kernel_rfl) rfl ?_ (by first | exact fun _ _ _ h => h | exact fun _ _ _ h => hQ2 _ _ _ _ _ h) ?_
      rotate_left
      · intro W hSW
        simp only [glA, glB, glC]
        (try dsimp only at hSW)
        go_simp
        with_reducible rfl
      (try simp only [glA, glB, glC, Act.put, glD, glE, glF])
      refine wpAnyJ_take 5 (v := ?_) (by first | exact hF | exact wideFn) (HS.out _ Bd.out) rfl (by kernel_rfl) (by kernel_rfl) (by kernel_rfl) (by kernel_rfl) rfl ?_ (by first | exact fun _ _ _ h => h | exact fun _ _ _ h => hQ2 _ _ _ _ _ h) ?_
      rotate_left
      · intro W hSW
        simp only [glA, glB, glC]
        (try dsimp only at hSW)
        go_simp
        with_reducible rfl
      (try simp only [glA, glB, glC, Act.put, glD, glE, glF])
      refine wpAnyJ_take 6 (v := ?_) (by first | exact hF | exact wideFn) (HS.out _ Bd.out) rfl (by kernel_rfl) (by kernel_rfl) (by kernel_rfl) (by kernel_rfl) rfl ?_ (by first | exact fun _ _ _ h => h | exact fun _ _ _ h => hQ2 _ _ _ _ _ h) ?_
      rotate_left
      · intro W hSW
        simp only [glA, glB, glC]
        (try dsimp only at hSW)
        go_simp
        with_reducible rfl
      (try simp only [glA, glB, glC, Act.put, glD, glE, glF])
      obtain ⟨z, hz⟩ : ∃ z, bits BinOp.andNot IntKind.i64 (s k : Nat) (t k : Nat) = z := ⟨_, rfl⟩
      rw [hz]
      have HZ := hide hz
      clear hz
      refine wpAnyJ_take 7 (v := ?_) (by first | exact hF | exact wideFn) (HS.out _ Bd.out) rfl (by kernel_rfl) (by kernel_rfl) (by kernel_rfl) (by kernel_rfl) rfl ?_ (by first | exact fun _ _ _ h => h | exact fun _ _ _ h => hQ2 _ _ _ _ _ h) ?_
      rotate_left
      · intro W hSW
        simp only [glA, glB, glC]
        (try dsimp only at hSW)
        go_simp
        with_reducible rfl
      (try simp only [glA, glB, glC, Act.put, glD, glE, glF])
      refine wpAnyJ_done (by kernel_rfl) ?_
      by_cases q : z = 0
      · have q1 : (z == 0) = true := by rw [q]; rfl
        have q2 : (z != 0) = false := by rw [q]; rfl
        have Q := hide q
        clear q
        go_wp2_with fail
        go_roundw
        case rel => exact ⟨k + 1, by omega, by go_num, fun j hj => by
          rcases (by omega : j < k ∨ j = k) with h | h
          · exact HX.out j h
          · rw [h, HZ.out, Q.out], Bd.out⟩
        case measure => simp [intOf]; omega
      · have q1 : (z == 0) = false := by rw [beq_eq_false_iff_ne]; exact q
        have q2 : (z != 0) = true := by simp [q]
        go_wp2_with fail
        go_ret
        refine ⟨ret_bool ?_, HB0.out.trans (Bd.out.mono HB0.out.size)⟩
        have hne : ¬ ∀ k, k < 5 → bits BinOp.andNot IntKind.i64 (s k : Nat) (t k : Nat) = 0 := fun h => q (by rw [← HZ.out]; exact h k hlt)
        exact (decide_eq_false hne).symm
    · obtain rfl : k = 5 := by omega
      go_wp2_with fail
      go_ret
      exact ⟨ret_bool (decide_eq_true HX.out).symm, HB0.out.trans (HBW.out.mono HB0.out.size)⟩
end Go.Proofs.YtmpegkojencbjaaDoor
/- School, plain: what Restore computes. -/
namespace Go.Proofs.YtmpegkojencbjaaDoor
open Go Go.RowKit Go.Shelf
set_option maxHeartbeats 2000000
set_option maxRecDepth 100000
/-- what a reading may not be -/
def barI (r : Int) (v : Nat) : Bool := decide (0 ≤ r) && decide (r ≠ (v : Int))
/-- row i with the readings that it may not have -/
def barT (r : Int) (t : Nat → Int) (v : Nat) : Int := if barI r v then 1000 else t v
/-- the table behind copy i -/
def stepT (p r : Nat → Int) (i : Nat) (T : Nat → Nat → Int) (k v : Nat) : Int :=
  if k = i then barT (r i) (T i) v else if 0 < i ∧ (k : Int) = p i then T k v + (bestF (barT (r i) (T i)) v 16).2 else T k v
/-- the table behind the last m copies of n -/
def tabF (p r : Nat → Int) (n : Nat) : Nat → Nat → Nat → Int
  | 0 => fun _ _ => 0
  | m + 1 => stepT p r (n - 1 - m) (tabF p r n m)
/-- the readings of the first n copies -/
def allF (p : Nat → Int) (T : Nat → Nat → Int) : Nat → List Int
  | 0 => []
  | i + 1 => allF p T i ++ [(bestF (T i) (if 0 ≤ p i then (allF p T i).getD (p i).toNat 0 else -1) 16).1]
theorem allF_len (p : Nat → Int) (T : Nat → Nat → Int) : ∀ n, (allF p T n).length = n
  | 0 => rfl
  | n + 1 => by show (allF p T n ++ [_]).length = _; rw [List.length_append, allF_len p T n]; rfl
theorem bestF_low (t : Nat → Int) (v : Int) (ht : ∀ k, 0 ≤ t k) : ∀ n, 0 ≤ (bestF t v n).2 ∧ (bestF t v n).2 ≤ 1000000
  | 0 => by simp [bestF]
  | n + 1 => by
    have ih := bestF_low t v ht n
    have h := ht n
    have e : bestF t v (n + 1) = if cstF t v n < (bestF t v n).2 then ((n : Int), cstF t v n) else bestF t v n := rfl
    rw [e]
    split
    · have : 0 ≤ cstF t v n := by unfold cstF; split <;> omega
      dsimp only at *
      omega
    · exact ih
theorem barT_nn {r : Int} {t : Nat → Int} (h : ∀ v, 0 ≤ t v) (v : Nat) : 0 ≤ barT r t v := by
  unfold barT; split
  · omega
  · exact h v
theorem tabF_bd (p r : Nat → Int) (n : Nat) : ∀ m k v, 0 ≤ tabF p r n m k v ∧ tabF p r n m k v ≤ m * 1000000
  | 0, k, v => by simp [tabF]
  | m + 1, k, v => by
    have ih := tabF_bd p r n m
    show 0 ≤ stepT p r (n - 1 - m) (tabF p r n m) k v ∧ stepT p r (n - 1 - m) (tabF p r n m) k v ≤ _
    unfold stepT
    have h1 := bestF_low (barT (r (n - 1 - m)) (tabF p r n m (n - 1 - m))) v (fun u => barT_nn (fun u => (ih _ u).1) u) 16
    have h2 := ih k v
    split
    · have h3 := ih (n - 1 - m) v
      unfold barT
      split <;> omega
    · split <;> omega
/-- parents and readings that are not as told -/
def cpOk (p r : Nat → Int) (i : Nat) : Bool := (if i = 0 then decide (p 0 = -1) else decide (0 ≤ p i ∧ p i ≤ (i : Int) - 1)) && decide (-1 ≤ r i ∧ r i ≤ 15)
def cpAll (p r : Nat → Int) : Nat → Bool
  | 0 => true
  | n + 1 => cpAll p r n && cpOk p r n
theorem cpAll_at {p r : Nat → Int} {n : Nat} (h : cpAll p r n = true) : ∀ k, k < n → cpOk p r k = true := by
  induction n with
  | zero => intro k hk; omega
  | succ n ih =>
    intro k hk
    have h2 : (cpAll p r n && cpOk p r n) = true := h
    rw [Bool.and_eq_true] at h2
    rcases (by omega : k < n ∨ k = n) with h1 | rfl
    · exact ih h2.1 k h1
    · exact h2.2
theorem cpAll_no {p r : Nat → Int} {i n : Nat} (h : cpOk p r i = false) (hi : i < n) : cpAll p r n = false := by
  cases h1 : cpAll p r n with
  | false => rfl
  | true => rw [cpAll_at h1 i hi] at h; cases h
theorem cpOk_p {p r : Nat → Int} {i : Nat} (h : cpOk p r i = true) : p i < i ∧ (i = 0 → p i = -1) ∧ (0 < i → 0 ≤ p i) ∧ -1 ≤ r i ∧ r i ≤ 15 := by
  unfold cpOk at h
  rw [Bool.and_eq_true] at h
  obtain ⟨h1, h2⟩ := h
  have h2 := of_decide_eq_true h2
  by_cases hi : i = 0
  · subst hi
    rw [if_pos rfl] at h1
    have h1 := of_decide_eq_true h1
    omega
  · rw [if_neg hi] at h1
    have h1 := of_decide_eq_true h1
    omega
/-- what Restore returns -/
def rsR (P R : List Int) : List Int × Int × Int :=
  if 20 < P.length then ([], 0, 5)
  else if P.length = 0 ∨ R.length ≠ P.length ∨ cpAll (fun k => P.getD k 0) (fun k => R.getD k 0) P.length = false then ([], 0, 2)
  else
    let T := tabF (fun k => P.getD k 0) (fun k => R.getD k 0) P.length P.length
    (allF (fun k => P.getD k 0) T P.length, (bestF (T 0) (-1) 16).2 - 1, 0)
end Go.Proofs.YtmpegkojencbjaaDoor
/- School: Restore, walked. -/
namespace Go.Proofs.YtmpegkojencbjaaDoor
open List renaming getElem_toArray → glA, getElem_cons_zero → glB, getElem_cons_succ → glC, setIfInBounds_toArray → glD, set_cons_zero → glE, set_cons_succ → glF
open Go Go.RowKit Go.Shelf
set_option maxHeartbeats 8000000
set_option maxRecDepth 100000
theorem LI.one (W : World) (x : Int) : LI (W.alloc (.cells #[.int .i64 x] 3)) (W.alloc (.cells #[.int .i64 x] 3)).heap.size (some ⟨W.heap.size, 0, none⟩) [x] := fun _ => by
  refine ⟨W.heap.size, 0, rfl, by simp, fun k i hk hi => ?_⟩
  have hk : k = 0 := by simp at hk; exact hk
  obtain rfl := hk
  obtain rfl : i = 0 := by omega
  have h := (Blk.new W 3 #[.int .i64 x]).cell 0
  simpa using h
/-- an int is put behind an own list -/
theorem OwnJ.push {W : World} {base : Nat} {v : Value} {l : List Int} (h : OwnJ W base v l) (x : Int) (hl : l.length ≤ 100000) (hb : base ≤ W.heap.size) :
    ∃ v' w', (Builtin.append_ #[36, 36] 36 #[v, .slice (some ⟨W.heap.size, 0, none⟩) 1 1]).run Tryd.prog (W.alloc (.cells #[.int .i64 x] 3)) = .ok v' w' ∧ OwnJ w' base v' (l ++ [x]) ∧ (W.alloc (.cells #[.int .i64 x] 3)).grownBy w' v.ownBlock := by
  have hBA : Below W.heap.size W (W.alloc (.cells #[.int .i64 x] 3)) := (Below.refl _ _).alloc (Nat.le_refl _) _
  obtain ⟨v', w', hr, ho, hg, -⟩ := (h.ext hBA).pushes (some ⟨W.heap.size, 0, none⟩) 1 [x] (LI.one W x) (by simp; omega) (Nat.le_trans hb hBA.size)
  exact ⟨v', w', hr, ho, hg⟩
/-- the table of the fewest changes -/
structure RT (w W : World) (D n : Nat) (T : Nat → Nat → Int) : Prop where
  below : Below w.heap.size w W
  lo : w.heap.size ≤ D
  blk : Blk W D 105 (rowV (n * 16) fun q => .int .i64 (T (q / 16) (q % 16)))
section
variable {w W W' : World} {D n : Nat} {T : Nat → Nat → Int}
theorem RT.ext (h : RT w W D n T) (hb : Below W.heap.size W W') : RT w W' D n T := ⟨h.below.trans (hb.mono h.below.size), h.lo, h.blk.ext hb⟩
theorem RT.at_ (h : RT w W D n T) {k v : Nat} (hk : k < n) (hv : v < 16) : W.cell? ⟨D, k * 16 + v, none⟩ = some (.int .i64 (T k v)) := by
  rw [h.blk.cell, rowV_get _ _ (by omega), show (k * 16 + v) / 16 = k by omega, show (k * 16 + v) % 16 = v by omega]
theorem RT.congr {T' : Nat → Nat → Int} (h : RT w W D n T) (he : ∀ k v, k < n → v < 16 → T k v = T' k v) : RT w W D n T' := by
  refine ⟨h.below, h.lo, ?_⟩
  rw [rowV_same (n * 16) _ (fun q => Value.int .i64 (T (q / 16) (q % 16))) (fun q hq => by rw [he (q / 16) (q % 16) (by omega) (by omega)])]
  exact h.blk
theorem RT.put (h : RT w W D n T) {k v : Nat} (hk : k < n) (hv : v < 16) (x : Int) : RT w (W.setCell ⟨D, k * 16 + v, none⟩ (.int .i64 x)) D n (fun i u => if i = k ∧ u = v then x else T i u) := by
  refine ⟨h.below.setCell h.lo _, h.lo, ?_⟩
  rw [rowV_same (n * 16) _ (upd (fun q => Value.int .i64 (T (q / 16) (q % 16))) (k * 16 + v) (.int .i64 x)) (fun q hq => by
    unfold upd
    by_cases e : q = k * 16 + v
    · subst e
      rw [if_pos rfl, if_pos (by omega)]
    · rw [if_neg e, if_neg (by omega)])]
  rw [← rowV_set]
  exact h.blk.set_ _ _
theorem RT.grown (h : RT w W D n T) {row : Option Nat} (hg : W.grownBy W' row) (h1 : ∀ k, row = some k → w.heap.size ≤ k) (h2 : row ≠ some D) : RT w W' D n T :=
  ⟨h.below.grown hg h.below.size h1, h.lo, h.blk.grown hg (fun e => h2 e.symm)⟩
end
theorem info_costs : (Tryd.prog.info? 105).map (fun i => (i.zero, i.size, i.bytes)) = some (some (.agg (Array.replicate 16 (.int .i64 0))), 16, 128) := by kernel_rfl
theorem rowV_costs (n : Nat) : madeCells (Value.agg (Array.replicate 16 (.int .i64 0))).cells (n * 16) = rowV (n * 16) (fun q => .int .i64 ((fun _ _ => (0 : Int)) (q / 16) (q % 16))) := by
  apply Array.ext_getElem?
  intro j
  simp only [rowV, madeCells, Array.getElem?_map, Array.getElem?_range, List.getElem?_toArray, List.getElem?_map]
  by_cases hj : j < n * 16
  · have h2 : j % 16 < 16 := Nat.mod_lt _ (by omega)
    have hc : (Value.agg (Array.replicate 16 (.int .i64 0))).cells = Array.replicate 16 (.int .i64 0) := by rfl
    simp [hj, hc, h2]
  · simp [hj]
def RsPost (w : World) (r : List Int × Int × Int) (e : Ending) (w' : World) : Prop :=
  ∃ v, e = .returned (.tuple #[v, .int .i64 r.2.1, .int .i64 r.2.2]) ∧ OwnJ w' w.heap.size v r.1 ∧ Below w.heap.size w w'
theorem restore_long (A B : Option Addr) (c d : Nat) (P R : List Int) (w : World) (hl : 20 < P.length) :
    Calls Tryd.prog 25 #[.slice A P.length c, .slice B R.length d] w (RsPost w ([], 0, 5)) := by
  have hl' : (20 : Int) < (P.length : Int) := by omega
  unfold RsPost
  generalize P.length = n at hl hl' ⊢
  generalize R.length = m
  go_enter Tryd.func25, Tryd.ntmps25
  go_wp2_with fail
  go_ret3
  exact ⟨_, rfl, OwnJ.nil _ _, Below.refl _ _⟩
theorem restore_len (A B : Option Addr) (c d : Nat) (P R : List Int) (w : World) (hl : P.length ≤ 20) (hne : P.length = 0 ∨ R.length ≠ P.length) :
    Calls Tryd.prog 25 #[.slice A P.length c, .slice B R.length d] w (RsPost w ([], 0, 2)) := by
  have hl' : ¬ (20 : Int) < (P.length : Int) := by omega
  unfold RsPost
  generalize P.length = n at hl hl' hne ⊢
  generalize R.length = m at hne ⊢
  by_cases h0 : n = 0
  · subst h0
    clear hne hl hl'
    go_enter Tryd.func25, Tryd.ntmps25
    go_wp2_with fail
    go_ret3
    exact ⟨_, rfl, OwnJ.nil _ _, Below.refl _ _⟩
  · have h1 : ((n : Int) == 0) = false := by rw [beq_eq_false_iff_ne]; omega
    have h1' : (n == 0) = false := by rw [beq_eq_false_iff_ne]; exact h0
    have h2 : ((m : Int) != (n : Int)) = true := by rw [bne_iff_ne]; omega
    have h2' : (m != n) = true := by rw [bne_iff_ne]; omega
    clear hne h0
    go_enter Tryd.func25, Tryd.ntmps25
    go_wp2_with fail
    go_ret3
    exact ⟨_, rfl, OwnJ.nil _ _, Below.refl _ _⟩
theorem cpAll_succ (p r : Nat → Int) (n : Nat) : cpAll p r (n + 1) = (cpAll p r n && cpOk p r n) := rfl
attribute [local irreducible] bestF
theorem OwnJ.li {W : World} {n0 : Nat} {A : Option Addr} {n c : Nat} {l : List Int} (h : OwnJ W n0 (.slice A n c) l) : n = l.length ∧ LI W W.heap.size A l := by
  obtain ⟨A', c', e⟩ := own_shape h
  injection e with e1 e2 e3
  subst e2
  refine ⟨rfl, fun hn => ?_⟩
  rcases h.2 with ⟨h1, h2⟩ | ⟨g, cap, cur, h1, h2, h3, h4, h5, h6, h7⟩
  · omega
  · injection h1 with hA
    subst hA
    have hg := (World.ownsRow.lt h g rfl).2
    refine ⟨g, 0, rfl, hg, fun k i hk hi => ?_⟩
    obtain rfl : i = 0 := by omega
    have hc := World.ownsRow.cells h (g := g) rfl k _ (intJ_at l hk)
    have e1 : ((⟨g, 0, none⟩ : Addr).add k) = ⟨g, 0 + k * 1 + 0, none⟩ := by simp [Addr.add]; omega
    rw [e1] at hc
    exact hc
theorem restore_go (A B : Option Addr) (c d n : Nat) (P R : List Int) (p r : Nat → Int) (w : World) (x : List Int × Int × Int) (h0 : 0 < n) (hn : n ≤ 20) (hP : ER w w.heap.size 1 A n fun k _ => .int .i64 (p k)) (hR : ER w w.heap.size 1 B n fun k _ => .int .i64 (r k))
    (hno : cpAll p r n = false → x = ([], 0, 2)) (hyes : cpAll p r n = true → x = (allF p (tabF p r n n) n, (bestF (tabF p r n n 0) (-1) 16).2 - 1, 0)) :
    Calls Tryd.prog 25 #[.slice A n c, .slice B n d] w (RsPost w x) := by
  have HP := hide hP
  have HR := hide hR
  have HNO := hide hno
  have HYES := hide hyes
  clear hP hR hno hyes
  have h1 : ((n : Int) == 0) = false := by rw [beq_eq_false_iff_ne]; omega
  have h1' : (n == 0) = false := by rw [beq_eq_false_iff_ne]; omega
  have h2 : ((n : Int) != (n : Int)) = false := bne_self_eq_false _
  have h2' : (n != n) = false := bne_self_eq_false _
  have h3 : ¬ (20 : Int) < (n : Int) := by omega
  unfold RsPost
  go_enter Tryd.func25, Tryd.ntmps25
  go_upto_region 5 with fail
  clear h1 h1' h2 h2' h3
  go_upto_region 6 with fail
  go_loopw [4, 5, 35] (fun u z i wr => ∃ k : Nat, k ≤ n ∧ i = .int .i64 k ∧ u = .slice none 0 0 ∧ z = .int .i64 0 ∧ Hid (cpAll p r k = true) ∧ Hid (Below w.heap.size w wr)) (fun _ _ i _ => n - (intOf i).toNat)
  case atStart => exact ⟨0, Nat.zero_le _, rfl, rfl, rfl, hide rfl, hide (Below.refl _ _)⟩
  case round =>
    obtain ⟨k, hk, rfl, rfl, rfl, HC, HB⟩ := hrel
    by_cases hlt : k < n
    · -- BEGIN1
      have hlt' : (k : Int) < (n : Int) := by omega
      have k0 : (0 : Int) ≤ (k : Int) := by omega
      obtain ⟨pb, po, rfl, hpb, hpc⟩ := VR1.at_ (ER.below HP.out HB.out (Nat.le_refl _)) hlt
      obtain ⟨rb, ro, rfl, hrb, hrc⟩ := VR1.at_ (ER.below HR.out HB.out (Nat.le_refl _)) hlt
      obtain ⟨a, ha⟩ : ∃ a, p k = a := ⟨_, rfl⟩
      obtain ⟨b, hb⟩ : ∃ b, r k = b := ⟨_, rfl⟩
      rw [ha] at hpc
      rw [hb] at hrc
      have HWB := hide (within_any b (-1) 15 wr)
      have hcp : cpOk p r k = ((if k = 0 then decide (a = -1) else decide (0 ≤ a ∧ a ≤ (k : Int) - 1)) && decide (-1 ≤ b ∧ b ≤ 15)) := by
        unfold cpOk
        rw [ha, hb]
        by_cases e : k = 0
        · rw [if_pos e, if_pos e, ← ha, e]
        · rw [if_neg e, if_neg e]
      have hwb : (decide ((-1 : Int) ≤ b) && decide (b ≤ 15)) = decide (-1 ≤ b ∧ b ≤ 15) := by rw [Bool.decide_and]
      rw [hwb] at HWB
      clear hwb ha hb
      go_upto_region 8 with fail
      by_cases hk0 : k = 0
      · rw [if_pos hk0] at hcp
        have e1 : ((k : Int) == 0) = true := by rw [hk0]; rfl
        have e1' : (k == 0) = true := by rw [hk0]; rfl
        have e2 : ¬ (0 : Int) < (k : Int) := by omega
        by_cases ha1 : a = -1
        · rw [decide_eq_true ha1, Bool.true_and] at hcp
          have e3 : (a != -1) = false := by rw [ha1]; rfl
          have HCP := hide hcp
          clear hcp ha1 hk0
          generalize decide (-1 ≤ b ∧ b ≤ 15) = bb at HWB HCP
          go_wp2_with fail
          refine HWB.out.mono ?_
          rintro e _ ⟨rfl, rfl⟩
          rcases bb with _ | _
          · go_wp2_with fail
            go_ret3
            rw [HNO.out (cpAll_no HCP.out hlt)]
            exact ⟨_, rfl, OwnJ.nil _ _, HB.out⟩
          · go_wp2_with fail
            go_roundw
            case rel => exact ⟨k + 1, by omega, by go_num, rfl, rfl, hide (by rw [cpAll_succ, HC.out, HCP.out]; rfl), HB⟩
            case measure => simp [intOf]; omega
        · rw [decide_eq_false ha1, Bool.false_and] at hcp
          have e3 : (a != -1) = true := by rw [bne_iff_ne]; exact ha1
          have HCP := hide hcp
          clear hcp ha1 hk0
          go_wp2_with fail
          go_ret3
          rw [HNO.out (cpAll_no HCP.out hlt)]
          exact ⟨_, rfl, OwnJ.nil _ _, HB.out⟩
      · rw [if_neg hk0] at hcp
        have e1 : ((k : Int) == 0) = false := by rw [beq_eq_false_iff_ne]; omega
        have e1' : (k == 0) = false := by rw [beq_eq_false_iff_ne]; omega
        have e2 : (0 : Int) < (k : Int) := by omega
        have w1 : IntKind.i64.wrap ((k : Int) - 1) = (k : Int) - 1 := IntWalk.i64_in _ (by omega)
        have HWA := hide (within_any a 0 ((k : Int) - 1) wr)
        have hwa : (decide ((0 : Int) ≤ a) && decide (a ≤ (k : Int) - 1)) = decide (0 ≤ a ∧ a ≤ (k : Int) - 1) := by rw [Bool.decide_and]
        rw [hwa] at HWA
        clear hwa hk0
        generalize decide (0 ≤ a ∧ a ≤ (k : Int) - 1) = aa at HWA hcp
        generalize decide (-1 ≤ b ∧ b ≤ 15) = bb at HWB hcp
        go_wp2_with fail
        refine HWA.out.mono ?_
        rintro e _ ⟨rfl, rfl⟩
        rcases aa with _ | _
        · have HCP := hide (hcp.trans (Bool.false_and bb))
          clear hcp
          go_wp2_with fail
          go_ret3
          rw [HNO.out (cpAll_no HCP.out hlt)]
          exact ⟨_, rfl, OwnJ.nil _ _, HB.out⟩
        · have HCP := hide (hcp.trans (Bool.true_and bb))
          clear hcp
          go_wp2_with fail
          refine HWB.out.mono ?_
          rintro e _ ⟨rfl, rfl⟩
          rcases bb with _ | _
          · go_wp2_with fail
            go_ret3
            rw [HNO.out (cpAll_no HCP.out hlt)]
            exact ⟨_, rfl, OwnJ.nil _ _, HB.out⟩
          · go_wp2_with fail
            go_roundw
            case rel => exact ⟨k + 1, by omega, by go_num, rfl, rfl, hide (by rw [cpAll_succ, HC.out, HCP.out]; rfl), HB⟩
            case measure => simp [intOf]; omega
      -- END1
    · -- BEGIN2
      obtain rfl : n = k := by omega
      have hnl : ¬ (n : Int) < (n : Int) := by omega
      have HX := hide (HYES.out HC.out)
      have HCA := hide (cpAll_at HC.out)
      clear HNO HYES
      obtain ⟨i0, hi, hz0, hz1, hz2⟩ := info_parts info_costs
      have gl := run_make_rowN (P := Tryd.prog) 104 105 i0 _ Tryd.underlying104 hi hz0 .i64 .i64 n n (Nat.le_refl _) (by rw [hz2]; omega) (by omega) wr
      rw [hz1, rowV_costs] at gl
      clear hi hz0 hz1 hz2
      have w1 : IntKind.i64.wrap ((n : Int) - 1) = (n : Int) - 1 := IntWalk.i64_in _ (by omega)
      go_upto_region 13 with fail
      have HT0 : Hid (RT w (wr.alloc (.cells (rowV (n * 16) (fun q => .int .i64 ((fun _ _ => (0 : Int)) (q / 16) (q % 16)))) 105)) wr.heap.size n (tabF p r n 0)) := hide ⟨HB.out.alloc HB.out.size _, HB.out.size, Blk.new _ _ _⟩
      generalize (wr.alloc (.cells (rowV (n * 16) (fun q => .int .i64 ((fun _ _ => (0 : Int)) (q / 16) (q % 16)))) 105)) = w2 at HT0 ⊢
      generalize wr.heap.size = D at HT0 ⊢
      clear gl HB HC w1
      go_loopw [10] (fun x wr => ∃ (m : Nat) (iv : Int), x = .int .i64 iv ∧ iv = (n : Int) - 1 - m ∧ m ≤ n ∧ Hid (RT w wr D n (tabF p r n m))) (fun x _ => (intOf x + 1).toNat)
      case atStart => exact ⟨0, _, rfl, by omega, by omega, HT0⟩
      case round =>
        obtain ⟨m, iv, rfl, hiv, hm, HT⟩ := hrel
        clear HT0
        by_cases hmn : m < n
        · -- BEGIN3
          obtain ⟨i, hi⟩ : ∃ i, n - 1 - m = i := ⟨_, rfl⟩
          obtain rfl : iv = (i : Int) := by omega
          have hin : i < n := by omega
          have i0 : (0 : Int) ≤ (i : Int) := by omega
          have i1 : (i : Int) < (n : Int) := by omega
          have w3 : IntKind.i64.wrap ((i : Int) - 1) = (i : Int) - 1 := IntWalk.i64_in _ (by omega)
          have HST : Hid (∀ k v, tabF p r n (m + 1) k v = stepT p r i (tabF p r n m) k v) := hide (fun k v => by rw [← hi]; rfl)
          have HBD := hide (tabF_bd p r n m)
          have HCP := hide (cpOk_p (HCA.out i hin))
          generalize tabF p r n m = T at HT HST HBD
          obtain ⟨b, hb⟩ : ∃ b, r i = b := ⟨_, rfl⟩
          obtain ⟨a, ha⟩ : ∃ b, p i = b := ⟨_, rfl⟩
          obtain ⟨rb, ro, rfl, hrb, hrc⟩ := VR1.at_ HR.out hin
          obtain ⟨pb, po, rfl, hpb, hpc⟩ := VR1.at_ HP.out hin
          rw [hb] at hrc
          rw [ha] at hpc
          have HSTT : Hid (∀ k v, tabF p r n (m + 1) k v = if k = i then barT b (T i) v else if 0 < i ∧ (k : Int) = a then T k v + (bestF (barT b (T i)) v 16).2 else T k v) := hide (fun k v => by rw [HST.out]; unfold stepT; rw [hb, ha])
          rw [ha, hb] at HCP
          have HI := hide hi
          clear HST ha hb hi hiv
          have HRC := hide (And.intro hrb hrc)
          have HPC := hide (And.intro hpb hpc)
          clear hrb hrc hpb hpc
          go_upto_region 16 with fail
          go_loopw [76] (fun x wr => ∃ v : Nat, x = .int .i64 v ∧ v ≤ 16 ∧ Hid (RT w wr D n (fun k u => if k = i ∧ u < v then barT b (T i) u else T k u))) (fun x _ => 16 - (intOf x).toNat)
          case atStart => exact ⟨0, rfl, by omega, hide (HT.out.congr (fun k u _ _ => by rw [if_neg (by omega)]))⟩
          case round =>
            obtain ⟨v, rfl, hv, HV⟩ := hrel
            clear HT
            by_cases hv16 : v < 16
            · -- BEGIN4
              have hv16' : (v : Int) < 16 := by omega
              have v0 : (0 : Int) ≤ (v : Int) := by omega
              have hrc := (HV.out.below.cell (p := ⟨rb, ro + i, none⟩) HRC.out.1).trans HRC.out.2
              by_cases hb0 : 0 ≤ b
              · by_cases hbv : b = (v : Int)
                · have e1 : (b != (v : Int)) = false := by rw [hbv]; exact bne_self_eq_false _
                  have hbar : barT b (T i) v = T i v := by unfold barT barI; rw [if_neg]; simp [hbv]
                  have HBAR := hide hbar
                  clear hbv hbar
                  go_wp2_with fail
                  go_roundw
                  case rel => exact ⟨v + 1, by go_num, by omega, hide (HV.out.congr (fun k u _ _ => by
                    by_cases h1 : k = i ∧ u < v
                    · rw [if_pos h1, if_pos (by omega)]
                    · rw [if_neg h1]
                      by_cases h2 : k = i ∧ u < v + 1
                      · obtain ⟨rfl, h3⟩ := h2
                        obtain rfl : u = v := by omega
                        rw [if_pos (by omega), HBAR.out]
                      · rw [if_neg h2]))⟩
                  case measure => simp [intOf]; omega
                · have e1 : (b != (v : Int)) = true := by rw [bne_iff_ne]; exact hbv
                  have hbar : barT b (T i) v = 1000 := by unfold barT barI; rw [if_pos]; simp [hb0, hbv]
                  have HBAR := hide hbar
                  have HPUT := hide (HV.out.put hin hv16 1000)
                  have cD := HV.out.at_ hin hv16
                  have fD := HV.out.blk.frozen (i * 16 + v)
                  have lD := HV.out.blk.lt
                  clear hbv hbar
                  go_wp2_with fail
                  go_roundw
                  case rel => exact ⟨v + 1, by go_num, by omega, hide (HPUT.out.congr (fun k u _ _ => by
                    by_cases h1 : k = i ∧ u = v
                    · obtain ⟨rfl, rfl⟩ := h1
                      rw [if_pos ⟨rfl, rfl⟩, if_pos (by omega), HBAR.out]
                    · rw [if_neg h1]
                      by_cases h2 : k = i ∧ u < v
                      · rw [if_pos h2, if_pos (by omega)]
                      · rw [if_neg h2, if_neg (by omega)]))⟩
                  case measure => simp [intOf]; omega
              · have hbar : barT b (T i) v = T i v := by unfold barT barI; rw [if_neg]; simp; omega
                have HBAR := hide hbar
                clear hbar
                go_wp2_with fail
                go_roundw
                case rel => exact ⟨v + 1, by go_num, by omega, hide (HV.out.congr (fun k u _ _ => by
                    by_cases h1 : k = i ∧ u < v
                    · rw [if_pos h1, if_pos (by omega)]
                    · rw [if_neg h1]
                      by_cases h2 : k = i ∧ u < v + 1
                      · obtain ⟨rfl, h3⟩ := h2
                        obtain rfl : u = v := by omega
                        rw [if_pos (by omega), HBAR.out]
                      · rw [if_neg h2]))⟩
                case measure => simp [intOf]; omega
              -- END4
            · -- BEGIN5
              obtain rfl : v = 16 := by omega
              have hnl16 : ¬ ((16 : Nat) : Int) < 16 := by omega
              have HV1 : Hid (RT w wr D n (fun k u => if k = i then barT b (T i) u else T k u)) := hide (HV.out.congr (fun k u _ hu => by
                by_cases h1 : k = i
                · rw [if_pos ⟨h1, hu⟩, if_pos h1]
                · rw [if_neg (by omega), if_neg h1]))
              clear HV
              by_cases hi0 : i = 0
              · subst hi0
                have HN : Hid (RT w wr D n (tabF p r n (m + 1))) := hide (HV1.out.congr (fun k u _ _ => by
                  rw [HSTT.out]
                  by_cases h1 : k = 0
                  · rw [if_pos h1, if_pos h1]
                  · rw [if_neg h1, if_neg h1, if_neg (by omega)]))
                clear HV1
                go_wp2_with fail
                go_roundw
                case rel => exact ⟨m + 1, ((0 : Nat) : Int) - 1, by first | rfl | rw [IntWalk.i64_in _ (by omega)], by have := HI.out; omega, by omega, HN⟩
                case measure => first | (simp [intOf]; omega) | simp [intOf]
              · have hi0' : (0 : Int) < (i : Int) := by omega
                obtain ⟨q, rfl⟩ : ∃ q : Nat, a = (q : Int) := ⟨a.toNat, by have := HCP.out.2.2.1; omega⟩
                have hqi : q < i := by have := HCP.out.1; omega
                have q0 : (0 : Int) ≤ (q : Int) := by omega
                have q1 : (q : Int) < (n : Int) := by omega
                have hqn : q < n := by omega
                go_upto_region 23 with fail
                go_loopw [100] (fun x wr => ∃ v : Nat, x = .int .i64 v ∧ v ≤ 16 ∧ Hid (RT w wr D n (fun k u => if k = i then barT b (T i) u else if k = q ∧ u < v then T k u + (bestF (barT b (T i)) u 16).2 else T k u))) (fun x _ => 16 - (intOf x).toNat)
                case atStart => exact ⟨0, rfl, by omega, hide (HV1.out.congr (fun k u _ _ => by
                  by_cases h1 : k = i
                  · rw [if_pos h1, if_pos h1]
                  · rw [if_neg h1, if_neg h1, if_neg (by omega)]))⟩
                case round =>
                  obtain ⟨v, rfl, hv, HV⟩ := hrel
                  clear HV1
                  by_cases hv16 : v < 16
                  · -- BEGIN7
                    have hv16' : (v : Int) < 16 := by omega
                    have v0 : (0 : Int) ≤ (v : Int) := by omega
                    have HBST := hide (best_any D (i * 16) (barT b (T i)) (v : Int) wr HV.out.blk.lt (fun k hk => by
                      have h := HV.out.at_ hin hk
                      rw [if_pos rfl] at h
                      exact h) (fun k hk => by
                      have h := HBD.out i k
                      have h2 : ((m : Nat) : Int) ≤ 20 := by omega
                      refine ⟨barT_nn (fun u => (HBD.out i u).1) k, ?_⟩
                      unfold barT
                      split
                      · omega
                      · omega))
                    have hbl := bestF_low (barT b (T i)) (v : Int) (fun k => barT_nn (fun u => (HBD.out i u).1) k) 16
                    have htq := HBD.out q v
                    go_wp2_with fail
                    refine HBST.out.mono ?_
                    rintro e w4 ⟨rfl, hb4⟩
                    have HV4 := hide (HV.out.ext hb4)
                    clear HBST HV hb4
                    obtain ⟨y, hy⟩ : ∃ y, (bestF (barT b (T i)) (v : Int) 16).2 = y := ⟨_, rfl⟩
                    obtain ⟨t, ht⟩ : ∃ y, T q v = y := ⟨_, rfl⟩
                    rw [hy] at hbl ⊢
                    rw [ht] at htq
                    have wy : IntKind.i64.wrap (t + y) = t + y := IntWalk.i64_in _ (by omega)
                    have HYT := hide (And.intro hy ht)
                    clear hy ht
                    go_upto_region 26 with fail
                    have HV5 := hide (HV4.out.ext (Below.refl w4.heap.size w4).drew)
                    refine wp_region_K (pickS [4, 8] (fun W : World => W.cell? ⟨pb, po + i, none⟩ = some (.int .i64 (q : Nat)) ∧ W.cell? ⟨D, q * 16 + v, none⟩ = some (.int .i64 t)) (fun _ => True)) (by kernel_rfl) ?_
                    generalize w4.drew = w5 at HV5 ⊢
                    have HS : Hid (w5.cell? ⟨pb, po + i, none⟩ = some (.int .i64 (q : Nat)) ∧ w5.cell? ⟨D, q * 16 + v, none⟩ = some (.int .i64 t)) := hide ⟨(HV5.out.below.cell (p := ⟨pb, po + i, none⟩) HPC.out.1).trans HPC.out.2, by
                      have h := HV5.out.at_ hqn hv16
                      rw [if_neg (by omega), if_neg (by omega), HYT.out.2] at h
                      exact h⟩
                    have HPUT := hide (HV5.out.put hqn hv16 (t + y))
                    have cD := HS.out.2
                    have fD := HV5.out.blk.frozen (q * 16 + v)
                    have lD := HV5.out.blk.lt
                    refine wpAnyK_take 0 (v := ?_) (by first | exact hF | exact wideFn) trivial rfl (by kernel_rfl) (by kernel_rfl) (by kernel_rfl) (by kernel_rfl) rfl ?_ (by first | exact fun _ _ _ h => h | exact fun _ _ _ h => hQ2 _ _ _ _ _ h) ?_
                    rotate_left
                    · intro W hSW
                      replace hSW : True := hSW
                      simp only [glA, glB, glC]
                      (try dsimp only at hSW)
                      go_simp
                      with_reducible rfl
                    (try simp only [glA, glB, glC, Act.put, glD, glE, glF])
                    refine wpAnyK_take 1 (v := ?_) (by first | exact hF | exact wideFn) trivial rfl (by kernel_rfl) (by kernel_rfl) (by kernel_rfl) (by kernel_rfl) rfl ?_ (by first | exact fun _ _ _ h => h | exact fun _ _ _ h => hQ2 _ _ _ _ _ h) ?_
                    rotate_left
                    · intro W hSW
                      replace hSW : True := hSW
                      simp only [glA, glB, glC]
                      (try dsimp only at hSW)
                      go_simp
                      with_reducible rfl
                    (try simp only [glA, glB, glC, Act.put, glD, glE, glF])
                    refine wpAnyK_take 2 (v := ?_) (by first | exact hF | exact wideFn) trivial rfl (by kernel_rfl) (by kernel_rfl) (by kernel_rfl) (by kernel_rfl) rfl ?_ (by first | exact fun _ _ _ h => h | exact fun _ _ _ h => hQ2 _ _ _ _ _ h) ?_
                    rotate_left
                    · intro W hSW
                      replace hSW : True := hSW
                      simp only [glA, glB, glC]
                      (try dsimp only at hSW)
                      go_simp
                      with_reducible rfl
                    (try simp only [glA, glB, glC, Act.put, glD, glE, glF])
                    refine wpAnyK_take 3 (v := ?_) (by first | exact hF | exact wideFn) trivial rfl (by kernel_rfl) (by kernel_rfl) (by kernel_rfl) (by kernel_rfl) rfl ?_ (by first | exact fun _ _ _ h => h | exact fun _ _ _ h => hQ2 _ _ _ _ _ h) ?_
                    rotate_left
                    · intro W hSW
                      replace hSW : True := hSW
                      simp only [glA, glB, glC]
                      (try dsimp only at hSW)
                      go_simp
                      with_reducible rfl
                    (try simp only [glA, glB, glC, Act.put, glD, glE, glF])
                    refine wpAnyK_take 4 (v := ?_) (by first | exact hF | exact wideFn) (And.intro HS.out trivial) rfl (by kernel_rfl) (by kernel_rfl) (by kernel_rfl) (by kernel_rfl) rfl ?_ (by first | exact fun _ _ _ h => h | exact fun _ _ _ h => hQ2 _ _ _ _ _ h) ?_
                    rotate_left
                    · intro W hSW
                      replace hSW : ((W.cell? ⟨pb, po + i, none⟩ = some (.int .i64 (q : Nat)) ∧ W.cell? ⟨D, q * 16 + v, none⟩ = some (.int .i64 t)) ∧ True) := hSW
                      simp only [glA, glB, glC]
                      (try dsimp only at hSW)
                      go_simp
                      with_reducible rfl
                    (try simp only [glA, glB, glC, Act.put, glD, glE, glF])
                    refine wpAnyK_take 5 (v := ?_) (by first | exact hF | exact wideFn) trivial rfl (by kernel_rfl) (by kernel_rfl) (by kernel_rfl) (by kernel_rfl) rfl ?_ (by first | exact fun _ _ _ h => h | exact fun _ _ _ h => hQ2 _ _ _ _ _ h) ?_
                    rotate_left
                    · intro W hSW
                      replace hSW : True := hSW
                      simp only [glA, glB, glC]
                      (try dsimp only at hSW)
                      go_simp
                      with_reducible rfl
                    (try simp only [glA, glB, glC, Act.put, glD, glE, glF])
                    refine wpAnyK_take 6 (v := ?_) (by first | exact hF | exact wideFn) trivial rfl (by kernel_rfl) (by kernel_rfl) (by kernel_rfl) (by kernel_rfl) rfl ?_ (by first | exact fun _ _ _ h => h | exact fun _ _ _ h => hQ2 _ _ _ _ _ h) ?_
                    rotate_left
                    · intro W hSW
                      replace hSW : True := hSW
                      simp only [glA, glB, glC]
                      (try dsimp only at hSW)
                      go_simp
                      with_reducible rfl
                    (try simp only [glA, glB, glC, Act.put, glD, glE, glF])
                    refine wpAnyK_take 7 (v := ?_) (by first | exact hF | exact wideFn) trivial rfl (by kernel_rfl) (by kernel_rfl) (by kernel_rfl) (by kernel_rfl) rfl ?_ (by first | exact fun _ _ _ h => h | exact fun _ _ _ h => hQ2 _ _ _ _ _ h) ?_
                    rotate_left
                    · intro W hSW
                      replace hSW : True := hSW
                      simp only [glA, glB, glC]
                      (try dsimp only at hSW)
                      go_simp
                      with_reducible rfl
                    (try simp only [glA, glB, glC, Act.put, glD, glE, glF])
                    refine wpAnyK_take 8 (v := ?_) (by first | exact hF | exact wideFn) (And.intro HS.out trivial) rfl (by kernel_rfl) (by kernel_rfl) (by kernel_rfl) (by kernel_rfl) rfl ?_ (by first | exact fun _ _ _ h => h | exact fun _ _ _ h => hQ2 _ _ _ _ _ h) ?_
                    rotate_left
                    · intro W hSW
                      replace hSW : ((W.cell? ⟨pb, po + i, none⟩ = some (.int .i64 (q : Nat)) ∧ W.cell? ⟨D, q * 16 + v, none⟩ = some (.int .i64 t)) ∧ True) := hSW
                      simp only [glA, glB, glC]
                      (try dsimp only at hSW)
                      go_simp
                      with_reducible rfl
                    (try simp only [glA, glB, glC, Act.put, glD, glE, glF])
                    refine wpAnyK_take 9 (v := ?_) (by first | exact hF | exact wideFn) trivial rfl (by kernel_rfl) (by kernel_rfl) (by kernel_rfl) (by kernel_rfl) rfl ?_ (by first | exact fun _ _ _ h => h | exact fun _ _ _ h => hQ2 _ _ _ _ _ h) ?_
                    rotate_left
                    · intro W hSW
                      replace hSW : True := hSW
                      simp only [glA, glB, glC]
                      (try dsimp only at hSW)
                      go_simp
                      with_reducible rfl
                    (try simp only [glA, glB, glC, Act.put, glD, glE, glF])
                    refine wpAnyK_take 10 (v := ?_) (by first | exact hF | exact wideFn) trivial rfl (by kernel_rfl) (by kernel_rfl) (by kernel_rfl) (by kernel_rfl) rfl ?_ (by first | exact fun _ _ _ h => h | exact fun _ _ _ h => hQ2 _ _ _ _ _ h) ?_
                    rotate_left
                    · intro W hSW
                      replace hSW : True := hSW
                      simp only [glA, glB, glC]
                      (try dsimp only at hSW)
                      go_simp
                      with_reducible rfl
                    (try simp only [glA, glB, glC, Act.put, glD, glE, glF])
                    refine wpAnyK_take 11 (v := ?_) (by first | exact hF | exact wideFn) trivial rfl (by kernel_rfl) (by kernel_rfl) (by kernel_rfl) (by kernel_rfl) rfl ?_ (by first | exact fun _ _ _ h => h | exact fun _ _ _ h => hQ2 _ _ _ _ _ h) ?_
                    rotate_left
                    · intro W hSW
                      replace hSW : True := hSW
                      simp only [glA, glB, glC]
                      (try dsimp only at hSW)
                      go_simp
                      with_reducible rfl
                    (try simp only [glA, glB, glC, Act.put, glD, glE, glF])
                    refine wpAnyK_take 12 (v := ?_) (by first | exact hF | exact wideFn) trivial rfl (by kernel_rfl) (by kernel_rfl) (by kernel_rfl) (by kernel_rfl) rfl ?_ (by first | exact fun _ _ _ h => h | exact fun _ _ _ h => hQ2 _ _ _ _ _ h) ?_
                    rotate_left
                    · intro W hSW
                      replace hSW : True := hSW
                      simp only [glA, glB, glC]
                      (try dsimp only at hSW)
                      go_simp
                      with_reducible rfl
                    (try simp only [glA, glB, glC, Act.put, glD, glE, glF])
                    refine wpAnyK_one 13 rfl (by kernel_rfl) (fun K hK => ?_)
                    simp only [glA, glB, glC]
                    go_simp
                    refine hK.out _ _ (.inr (pickS_need (by kernel_rfl) trivial)) ?_
                    clear hK K
                    (try simp only [glA, glB, glC, Act.put, glD, glE, glF])
                    refine wpAnyK_done (by kernel_rfl) ?_
                    clear cD fD lD
                    go_wp2_with fail
                    go_roundw
                    case rel => exact ⟨v + 1, by go_num, by omega, hide (HPUT.out.congr (fun k u _ _ => by
                      by_cases h1 : k = q ∧ u = v
                      · obtain ⟨rfl, rfl⟩ := h1
                        rw [if_pos ⟨rfl, rfl⟩, if_neg (by omega), if_pos (by omega), HYT.out.1, HYT.out.2]
                      · rw [if_neg h1]
                        by_cases h2 : k = i
                        · rw [if_pos h2, if_pos h2]
                        · rw [if_neg h2, if_neg h2]
                          by_cases h3 : k = q ∧ u < v
                          · rw [if_pos h3, if_pos (by omega)]
                          · rw [if_neg h3, if_neg (by omega)]))⟩
                    case measure => simp [intOf]; omega
                    -- END7
                  · -- BEGIN8
                    obtain rfl : v = 16 := by omega
                    have HN : Hid (RT w wr D n (tabF p r n (m + 1))) := hide (HV.out.congr (fun k u _ hu => by
                      rw [HSTT.out]
                      by_cases h1 : k = i
                      · rw [if_pos h1, if_pos h1]
                      · rw [if_neg h1, if_neg h1]
                        by_cases h2 : k = q
                        · rw [if_pos ⟨h2, hu⟩, if_pos (by omega)]
                        · rw [if_neg (by omega), if_neg (by omega)]))
                    clear HV
                    go_wp2_with fail
                    go_roundw
                    case rel => exact ⟨m + 1, (i : Int) - 1, by first | rfl | rw [IntWalk.i64_in _ (by omega)], by have := HI.out; omega, by omega, HN⟩
                    case measure => first | (simp [intOf]; omega) | simp [intOf]
                    -- END8
              -- END5
          -- END3
        · -- BEGIN6
          obtain rfl : n = m := by omega
          obtain rfl : iv = -1 := by omega
          clear hiv
          have HBD := hide (tabF_bd p r n n)
          generalize tabF p r n n = T at HT HBD HX
          go_upto_region 29 with fail
          go_loopw [4, 5, 127] (fun u z x wr => ∃ (k : Nat) (v : Value), u = v ∧ k ≤ n ∧ x = .int .i64 k ∧ z = .int .i64 (if k = 0 then 0 else (bestF (T 0) (-1) 16).2 - 1) ∧ Hid (RT w wr D n T) ∧ Hid (OwnJ wr w.heap.size v (allF p T k))) (fun _ _ x _ => n - (intOf x).toNat)
          case atStart => exact ⟨0, _, rfl, Nat.zero_le _, rfl, rfl, HT, hide (OwnJ.nil _ _)⟩
          case round =>
            obtain ⟨k, v, rfl, hk, rfl, rfl, HV, HO⟩ := hrel
            clear HT
            by_cases hlt : k < n
            · -- BEGIN9
              have hlt' : (k : Int) < (n : Int) := by omega
              have k0 : (0 : Int) ≤ (k : Int) := by omega
              have HCP := hide (cpOk_p (HCA.out k hlt))
              obtain ⟨a, ha⟩ : ∃ b, p k = b := ⟨_, rfl⟩
              obtain ⟨pb, po, rfl, hpb, hpc⟩ := VR1.at_ (ER.below HP.out HV.out.below (Nat.le_refl _)) hlt
              rw [ha] at hpc HCP
              have hnx : allF p T (k + 1) = allF p T k ++ [(bestF (T k) (if 0 ≤ a then (allF p T k).getD a.toNat 0 else -1) 16).1] := by
                rw [← ha]; rfl
              have hrow : ∀ (f : Int) (W : World), RT w W D n T → Calls Tryd.prog 60 #[.pointer (some ⟨D, k * 16, none⟩), .int .i64 f] W fun e w' => e = .returned (.tuple #[.int .i64 (bestF (T k) f 16).1, .int .i64 (bestF (T k) f 16).2]) ∧ Below W.heap.size W w' := fun f W h =>
                best_any D (k * 16) (T k) f W h.blk.lt (fun u hu => h.at_ hlt hu) (fun u hu => by
                  have h := HBD.out k u
                  have h2 : ((n : Nat) : Int) ≤ 20 := by omega
                  omega)
              have HROW := hide hrow
              have hlen := allF_len p T k
              obtain ⟨lk, hlk⟩ : ∃ l, allF p T k = l := ⟨_, rfl⟩
              rw [hlk] at HO hnx hlen
              have HNX := hide hnx
              obtain ⟨AA, cc, hAA⟩ := own_shape HO.out
              rw [hlen] at hAA
              subst hAA
              have HLEN := hide hlen
              have HHA := hide ha
              clear ha hnx hlen hlk
              obtain ⟨z, hz⟩ : ∃ z, (if k = 0 then (0 : Int) else (bestF (T 0) (-1) 16).2 - 1) = z := ⟨_, rfl⟩
              rw [hz]
              have HZ := hide hz
              clear hz
              by_cases ha0 : 0 ≤ a
              · obtain ⟨q, rfl⟩ : ∃ q : Nat, a = (q : Int) := ⟨a.toNat, by omega⟩
                have hqk : q < k := by have := HCP.out.1; omega
                have hqk' : (q : Int) < (k : Int) := by omega
                have hal : ¬ (q : Int) < 0 := by omega
                obtain ⟨ob, oo, rfl, hob, hoc⟩ := VR1.at_ (k := q) (HO.out.li).2 (by have := HLEN.out; omega)
                obtain ⟨f, hf⟩ : ∃ f, lk.getD q 0 = f := ⟨_, rfl⟩
                rw [hf] at hoc
                have HNY := hide (HNX.out.trans (by rw [if_pos ha0, show ((q : Int)).toNat = q by omega, hf] : _ = lk ++ [(bestF (T k) f 16).1]))
                clear hf
                go_wp2_with fail
                refine (HROW.out (f) wr HV.out).mono ?_
                rintro e w4 ⟨rfl, hb4⟩
                have HV4 := hide (HV.out.ext hb4)
                have HO4 := hide (HO.out.ext hb4)
                clear hb4 HV HO HROW
                obtain ⟨y1, hy1⟩ : ∃ y, (bestF (T k) (f) 16).1 = y := ⟨_, rfl⟩
                obtain ⟨y2, hy2⟩ : ∃ y, (bestF (T k) (f) 16).2 = y := ⟨_, rfl⟩
                have hbl := bestF_low (T k) (f) (fun u => (HBD.out k u).1) 16
                rw [hy2] at hbl
                rw [hy1, hy2]
                have wy : IntKind.i64.wrap (y2 - 1) = y2 - 1 := IntWalk.i64_in _ (by omega)
                have HY := hide (And.intro hy1 hy2)
                clear hy1 hy2
                have hV6 := HV4.out.ext ((Below.refl w4.heap.size w4).alloc (Nat.le_refl _) (.cells #[.int .i64 y1] 3))
                obtain ⟨v6, w6, hrun, ho6, hg6⟩ := HO4.out.push y1 (by have := HLEN.out; omega) HV4.out.below.size
                have HV6 := hide (hV6.grown hg6 (fun j hj => (World.ownsRow.lt HO4.out j hj).1) (own_blk_ne HO4.out HV4.out.blk (by decide)))
                have HO6 := hide ho6
                have HRUN := hide hrun
                clear hV6 ho6 hg6 hrun HV4 HO4
                go_wp2_with (at_builtin; refine wpList_append_run rfl (.tmp 146) (.tmp 148) 36 rfl rfl rfl HRUN.out ?_)
                go_roundw
                case rel => exact ⟨k + 1, v6, rfl, by omega, by go_num, by rw [if_neg (by omega), ← HZ.out, if_neg (by omega)], HV6, hide (by rw [HNY.out, HY.out.1]; exact HO6.out)⟩
                case measure => simp [intOf]; omega
              · have hk0 : k = 0 := by
                  rcases Nat.eq_zero_or_pos k with h | h
                  · exact h
                  · exact absurd (HCP.out.2.2.1 h) ha0
                have hal : a < 0 := by omega
                have HK0 := hide hk0
                have HNY := hide (HNX.out.trans (by rw [if_neg ha0] : _ = lk ++ [(bestF (T k) (-1) 16).1]))
                clear hk0
                go_wp2_with fail
                refine (HROW.out (-1) wr HV.out).mono ?_
                rintro e w4 ⟨rfl, hb4⟩
                have HV4 := hide (HV.out.ext hb4)
                have HO4 := hide (HO.out.ext hb4)
                clear hb4 HV HO HROW
                obtain ⟨y1, hy1⟩ : ∃ y, (bestF (T k) (-1) 16).1 = y := ⟨_, rfl⟩
                obtain ⟨y2, hy2⟩ : ∃ y, (bestF (T k) (-1) 16).2 = y := ⟨_, rfl⟩
                have hbl := bestF_low (T k) (-1) (fun u => (HBD.out k u).1) 16
                rw [hy2] at hbl
                rw [hy1, hy2]
                have wy : IntKind.i64.wrap (y2 - 1) = y2 - 1 := IntWalk.i64_in _ (by omega)
                have HY := hide (And.intro hy1 hy2)
                clear hy1 hy2
                have hV6 := HV4.out.ext ((Below.refl w4.heap.size w4).alloc (Nat.le_refl _) (.cells #[.int .i64 y1] 3))
                obtain ⟨v6, w6, hrun, ho6, hg6⟩ := HO4.out.push y1 (by have := HLEN.out; omega) HV4.out.below.size
                have HV6 := hide (hV6.grown hg6 (fun j hj => (World.ownsRow.lt HO4.out j hj).1) (own_blk_ne HO4.out HV4.out.blk (by decide)))
                have HO6 := hide ho6
                have HRUN := hide hrun
                clear hV6 ho6 hg6 hrun HV4 HO4
                go_wp2_with (at_builtin; refine wpList_append_run rfl (.tmp 146) (.tmp 148) 36 rfl rfl rfl HRUN.out ?_)
                go_roundw
                case rel => exact ⟨k + 1, v6, rfl, by omega, by go_num, by rw [if_neg (by omega), ← HY.out.2, HK0.out], HV6, hide (by rw [HNY.out, HY.out.1]; exact HO6.out)⟩
                case measure => simp [intOf]; omega
              -- END9
            · -- BEGIN10
              obtain rfl : n = k := by omega
              rw [if_neg (by omega)]
              go_wp2_with fail
              go_ret3
              rw [HX.out]
              exact ⟨_, rfl, HO.out, HV.out.below⟩
              -- END10
          -- END6
      -- END2
theorem Restore_any (A B : Option Addr) (c d : Nat) (P R : List Int) (w : World) (hP : LI w w.heap.size A P) (hR : LI w w.heap.size B R) :
    Calls Tryd.prog 25 #[.slice A P.length c, .slice B R.length d] w (RsPost w (rsR P R)) := by
  by_cases h1 : 20 < P.length
  · have e : rsR P R = ([], 0, 5) := by unfold rsR; rw [if_pos h1]
    rw [e]
    exact restore_long A B c d P R w h1
  · by_cases h2 : P.length = 0 ∨ R.length ≠ P.length
    · have e : rsR P R = ([], 0, 2) := by
        unfold rsR; rw [if_neg h1, if_pos]
        exact h2.imp id .inl
      rw [e]
      exact restore_len A B c d P R w (by omega) h2
    · have h3 : R.length = P.length := by omega
      have h4 : P.length ≠ 0 := fun e => h2 (.inl e)
      have hR' := hR
      unfold LI at hP hR'
      rw [h3] at hR' ⊢
      refine restore_go A B c d P.length P R _ _ w _ (by omega) (by omega) hP hR' (fun h => ?_) (fun h => ?_)
      · unfold rsR; rw [if_neg h1, if_pos (.inr (.inr h))]
      · unfold rsR; rw [if_neg h1, if_neg]
        rintro (e | e | e)
        · exact h4 e
        · exact e h3
        · rw [h] at e; cases e
end Go.Proofs.YtmpegkojencbjaaDoor
/- School: slices.Index and Contains at ints; sets: clean, special. -/
namespace Go.Proofs.YtmpegkojencbjaaDoor
open Go Go.RowKit Go.Shelf
set_option maxHeartbeats 2000000
set_option maxRecDepth 100000
theorem index_any (v : Int) (A : Option Addr) (n c : Nat) (x : Nat → Int) (w : World) (hn : n ≤ 1000000) (hR : IR w w.heap.size A n x) :
    Calls Tryd.prog 98 #[.slice A n c, .int .i64 v] w fun e w' => e = .returned (.int .i64 (idx (fun k => x k == v) n)) ∧ w' = w := by
  have HR := hide hR
  clear hR
  go_enter Tryd.func98, Tryd.ntmps98
  go_wp2_with fail
  go_loopw [8] (fun i wr => ∃ k : Nat, k ≤ n ∧ i = .int .i64 k ∧ Hid (idx (fun k => x k == v) k = -1) ∧ Hid (wr = w)) (fun i _ => n - (intOf i).toNat)
  case atStart => exact ⟨0, Nat.zero_le _, rfl, hide rfl, hide rfl⟩
  case round =>
    obtain ⟨k, hk, rfl, HX, HW⟩ := hrel
    obtain rfl := HW.out
    by_cases hlt : k < n
    · obtain ⟨b, off, rfl, hb, hc⟩ := HR.out.at_ hlt
      have i1 : (0 : Int) ≤ (k : Int) := by omega
      have i2 : (k : Int) < (n : Int) := by omega
      by_cases hx : x k = v
      · have h1 : (v == x k) = true := by simp [hx]
        have h2 : idx (fun k => x k == v) n = k := by
          have h3 : idx (fun k => x k == v) (k + 1) = k := by simp [idx, HX.out, hx]
          rw [idx_stable _ (k + 1) n (by rw [h3]; omega) (by omega), h3]
        have H2 := hide h2
        clear h2 hx
        go_wp2_with fail
        go_ret
        exact ⟨ret_int H2.out.symm, rfl⟩
      · have h1 : (v == x k) = false := by simp; exact fun e => hx e.symm
        have h2 : idx (fun k => x k == v) (k + 1) = -1 := by simp [idx, HX.out, hx]
        have H2 := hide h2
        clear h2 hx
        go_wp2_with fail
        go_roundw
        case rel => exact ⟨k + 1, by omega, by go_num, H2, trivial⟩
        case measure => simp [intOf]; omega
    · obtain rfl : k = n := by omega
      have i2 : ¬ (k : Int) < (k : Int) := by omega
      go_wp2_with fail
      go_ret
      exact ⟨ret_int HX.out.symm, rfl⟩
theorem contains_any (v : Int) (A : Option Addr) (n c : Nat) (x : Nat → Int) (w : World) (hn : n ≤ 1000000) (hR : IR w w.heap.size A n x) :
    Calls Tryd.prog 89 #[.slice A n c, .int .i64 v] w fun e w' => e = .returned (.bool (anyTo (fun k => x k == v) n)) ∧ w' = w := by
  have H := hide (index_any v A n c x w hn hR)
  rw [← idx_any]
  generalize idx (fun k => x k == v) n = R at H ⊢
  clear hR
  go_enter Tryd.func89, Tryd.ntmps89
  go_wp2_with fail
  refine H.out.mono ?_
  rintro e w1 ⟨rfl, rfl⟩
  go_wp2_with fail
  go_ret
  exact ⟨rfl, rfl⟩
theorem set5_at {W : World} {g : Nat} {s : Nat → Nat} (h : Blk W g 122 #[.int .i64 (s 0 : Nat), .int .i64 (s 1 : Nat), .int .i64 (s 2 : Nat), .int .i64 (s 3 : Nat), .int .i64 (s 4 : Nat)]) {k : Nat} (hk : k < 5) : W.cell? ⟨g, k, none⟩ = some (.int .i64 (s k : Nat)) := by
  rw [h.cell]
  rcases (by omega : k = 0 ∨ k = 1 ∨ k = 2 ∨ k = 3 ∨ k = 4) with rfl | rfl | rfl | rfl | rfl <;> rfl
/-- a set of cases that is empty in one feature has none -/
def clnF (s : Nat → Nat) (n : Nat) (k : Nat) : Nat := if anyTo (fun j => ((s j : Nat) : Int) == 0) n then 0 else s k
theorem clean_any (s : Nat → Nat) (n : Nat) (w : World) (hn : n ≤ 5) :
    Calls Tryd.prog 79 #[(.agg #[.int .i64 (s 0 : Nat), .int .i64 (s 1 : Nat), .int .i64 (s 2 : Nat), .int .i64 (s 3 : Nat), .int .i64 (s 4 : Nat)]), .int .i64 n] w fun e w' => e = .returned (.agg #[.int .i64 ((clnF s n) 0 : Nat), .int .i64 ((clnF s n) 1 : Nat), .int .i64 ((clnF s n) 2 : Nat), .int .i64 ((clnF s n) 3 : Nat), .int .i64 ((clnF s n) 4 : Nat)]) ∧ Below w.heap.size w w' := by
  have HB0 := hide ((Below.refl w.heap.size w).alloc (Nat.le_refl _) (.cells #[.int .i64 (s 0 : Nat), .int .i64 (s 1 : Nat), .int .i64 (s 2 : Nat), .int .i64 (s 3 : Nat), .int .i64 (s 4 : Nat)] 122))
  have S1 := hide (Blk.new w 122 #[.int .i64 (s 0 : Nat), .int .i64 (s 1 : Nat), .int .i64 (s 2 : Nat), .int .i64 (s 3 : Nat), .int .i64 (s 4 : Nat)])
  have HIR : Hid (∀ W, Below (w.alloc (.cells #[.int .i64 (s 0 : Nat), .int .i64 (s 1 : Nat), .int .i64 (s 2 : Nat), .int .i64 (s 3 : Nat), .int .i64 (s 4 : Nat)] 122)).heap.size (w.alloc (.cells #[.int .i64 (s 0 : Nat), .int .i64 (s 1 : Nat), .int .i64 (s 2 : Nat), .int .i64 (s 3 : Nat), .int .i64 (s 4 : Nat)] 122)) W → IR W W.heap.size (some ⟨w.heap.size, 0, none⟩) n (fun k => ((s k : Nat) : Int))) := hide (fun W h => by
    refine fun _ => ⟨w.heap.size, 0, rfl, (S1.out.ext h).lt, fun k i hk hi => ?_⟩
    obtain rfl : i = 0 := by omega
    have := set5_at (S1.out.ext h) (k := k) (by omega)
    rwa [show 0 + k * 1 + 0 = k by omega])
  go_enter Tryd.func79, Tryd.ntmps79
  go_upto_region 1 with fail
  have hB2 : Below (w.alloc (.cells #[.int .i64 (s 0 : Nat), .int .i64 (s 1 : Nat), .int .i64 (s 2 : Nat), .int .i64 (s 3 : Nat), .int .i64 (s 4 : Nat)] 122)).heap.size (w.alloc (.cells #[.int .i64 (s 0 : Nat), .int .i64 (s 1 : Nat), .int .i64 (s 2 : Nat), .int .i64 (s 3 : Nat), .int .i64 (s 4 : Nat)] 122)) ((w.alloc (.cells #[.int .i64 (s 0 : Nat), .int .i64 (s 1 : Nat), .int .i64 (s 2 : Nat), .int .i64 (s 3 : Nat), .int .i64 (s 4 : Nat)] 122)).alloc (.cells #[.int .i64 0, .int .i64 0, .int .i64 0, .int .i64 0, .int .i64 0] 122)) := (Below.refl _ _).alloc (Nat.le_refl _) _
  have HB2 := hide (HB0.out.trans (hB2.mono HB0.out.size))
  have hT : Blk ((w.alloc (.cells #[.int .i64 (s 0 : Nat), .int .i64 (s 1 : Nat), .int .i64 (s 2 : Nat), .int .i64 (s 3 : Nat), .int .i64 (s 4 : Nat)] 122)).alloc (.cells #[.int .i64 0, .int .i64 0, .int .i64 0, .int .i64 0, .int .i64 0] 122)) (w.heap.size + 1) 122 #[.int .i64 0, .int .i64 0, .int .i64 0, .int .i64 0, .int .i64 0] := by
    simpa using Blk.new (w.alloc (.cells #[.int .i64 (s 0 : Nat), .int .i64 (s 1 : Nat), .int .i64 (s 2 : Nat), .int .i64 (s 3 : Nat), .int .i64 (s 4 : Nat)] 122)) 122 #[.int .i64 0, .int .i64 0, .int .i64 0, .int .i64 0, .int .i64 0]
  have HC := hide (contains_any 0 (some ⟨w.heap.size, 0, none⟩) n 5 _ _ (by omega) (HIR.out _ hB2))
  have HS := hide (S1.out.ext hB2)
  have HT := hide hT
  clear hT hB2 HIR S1 HB0
  generalize ((w.alloc (.cells #[.int .i64 (s 0 : Nat), .int .i64 (s 1 : Nat), .int .i64 (s 2 : Nat), .int .i64 (s 3 : Nat), .int .i64 (s 4 : Nat)] 122)).alloc (.cells #[.int .i64 0, .int .i64 0, .int .i64 0, .int .i64 0, .int .i64 0] 122)) = w2 at HB2 HC HS HT ⊢
  have n0 : (0 : Int) ≤ (n : Int) := by omega
  have n5 : (n : Int) ≤ 5 := by omega
  go_wp2_with fail
  refine HC.out.mono ?_
  rintro e w3 ⟨rfl, rfl⟩
  have hcl : ∀ k, clnF s n k = if anyTo (fun j => ((s j : Nat) : Int) == 0) n then 0 else s k := fun k => rfl
  generalize anyTo (fun j => ((s j : Nat) : Int) == 0) n = t at hcl ⊢
  clear HC
  have lT := HT.out.lt
  have f0 := HT.out.frozen 0
  have f1 := HT.out.frozen 1
  have f2 := HT.out.frozen 2
  have f3 := HT.out.frozen 3
  have f4 := HT.out.frozen 4
  have z0 : w3.cell? ⟨w.heap.size + 1, 0, none⟩ = some (.int .i64 0) := by rw [HT.out.cell]; rfl
  have z1 : w3.cell? ⟨w.heap.size + 1, 1, none⟩ = some (.int .i64 0) := by rw [HT.out.cell]; rfl
  have z2 : w3.cell? ⟨w.heap.size + 1, 2, none⟩ = some (.int .i64 0) := by rw [HT.out.cell]; rfl
  have z3 : w3.cell? ⟨w.heap.size + 1, 3, none⟩ = some (.int .i64 0) := by rw [HT.out.cell]; rfl
  have z4 : w3.cell? ⟨w.heap.size + 1, 4, none⟩ = some (.int .i64 0) := by rw [HT.out.cell]; rfl
  rcases t with _ | _
  · have e0 : ∀ k, clnF s n k = s k := fun k => by rw [hcl]; rfl
    have E0 := hide e0
    clear hcl e0
    have y0 := set5_at HS.out (k := 0) (by omega)
    have y1 := set5_at HS.out (k := 1) (by omega)
    have y2 := set5_at HS.out (k := 2) (by omega)
    have y3 := set5_at HS.out (k := 3) (by omega)
    have y4 := set5_at HS.out (k := 4) (by omega)
    go_wp2_with fail
    have hR : Blk (((((w3.setCell ⟨w.heap.size + 1, 0, none⟩ (.int .i64 (s 0 : Nat))).setCell ⟨w.heap.size + 1, 1, none⟩ (.int .i64 (s 1 : Nat))).setCell ⟨w.heap.size + 1, 2, none⟩ (.int .i64 (s 2 : Nat))).setCell ⟨w.heap.size + 1, 3, none⟩ (.int .i64 (s 3 : Nat))).setCell ⟨w.heap.size + 1, 4, none⟩ (.int .i64 (s 4 : Nat))) (w.heap.size + 1) 122 #[.int .i64 (s 0 : Nat), .int .i64 (s 1 : Nat), .int .i64 (s 2 : Nat), .int .i64 (s 3 : Nat), .int .i64 (s 4 : Nat)] := by
      simpa using ((((HT.out.set_ 0 (.int .i64 (s 0 : Nat))).set_ 1 (.int .i64 (s 1 : Nat))).set_ 2 (.int .i64 (s 2 : Nat))).set_ 3 (.int .i64 (s 3 : Nat))).set_ 4 (.int .i64 (s 4 : Nat))
    have hB5 : Below w.heap.size w (((((w3.setCell ⟨w.heap.size + 1, 0, none⟩ (.int .i64 (s 0 : Nat))).setCell ⟨w.heap.size + 1, 1, none⟩ (.int .i64 (s 1 : Nat))).setCell ⟨w.heap.size + 1, 2, none⟩ (.int .i64 (s 2 : Nat))).setCell ⟨w.heap.size + 1, 3, none⟩ (.int .i64 (s 3 : Nat))).setCell ⟨w.heap.size + 1, 4, none⟩ (.int .i64 (s 4 : Nat))) :=
      ((((HB2.out.setCell (p := ⟨w.heap.size + 1, 0, none⟩) (Nat.le_succ _) _).setCell (p := ⟨w.heap.size + 1, 1, none⟩) (Nat.le_succ _) _).setCell (p := ⟨w.heap.size + 1, 2, none⟩) (Nat.le_succ _) _).setCell (p := ⟨w.heap.size + 1, 3, none⟩) (Nat.le_succ _) _).setCell (p := ⟨w.heap.size + 1, 4, none⟩) (Nat.le_succ _) _
    generalize (((((w3.setCell ⟨w.heap.size + 1, 0, none⟩ (.int .i64 (s 0 : Nat))).setCell ⟨w.heap.size + 1, 1, none⟩ (.int .i64 (s 1 : Nat))).setCell ⟨w.heap.size + 1, 2, none⟩ (.int .i64 (s 2 : Nat))).setCell ⟨w.heap.size + 1, 3, none⟩ (.int .i64 (s 3 : Nat))).setCell ⟨w.heap.size + 1, 4, none⟩ (.int .i64 (s 4 : Nat))) = w5 at hR hB5 ⊢
    have q0 := set5_at hR (k := 0) (by omega)
    have q1 := set5_at hR (k := 1) (by omega)
    have q2 := set5_at hR (k := 2) (by omega)
    have q3 := set5_at hR (k := 3) (by omega)
    have q4 := set5_at hR (k := 4) (by omega)
    refine bodyPost_ret (v := .agg #[.int .i64 (s 0 : Nat), .int .i64 (s 1 : Nat), .int .i64 (s 2 : Nat), .int .i64 (s 3 : Nat), .int .i64 (s 4 : Nat)]) (by simp [results, Tryd.results79, go_sem, q0, q1, q2, q3, q4]) rfl ⟨?_, hB5⟩
    rw [E0.out, E0.out, E0.out, E0.out, E0.out]
  · have e0 : ∀ k, clnF s n k = 0 := fun k => by rw [hcl]; rfl
    have E0 := hide e0
    clear hcl e0
    go_wp2_with fail
    obtain ⟨z, hz⟩ : ∃ z : Nat → Nat, z = fun _ => 0 := ⟨_, rfl⟩
    have hz' : ∀ k, z k = 0 := fun k => by rw [hz]
    have e0 : (0 : Int) = ((0 : Nat) : Int) := rfl
    rw [e0]
    have hR : Blk (((((w3.setCell ⟨w.heap.size + 1, 0, none⟩ (.int .i64 (z 0 : Nat))).setCell ⟨w.heap.size + 1, 1, none⟩ (.int .i64 (z 1 : Nat))).setCell ⟨w.heap.size + 1, 2, none⟩ (.int .i64 (z 2 : Nat))).setCell ⟨w.heap.size + 1, 3, none⟩ (.int .i64 (z 3 : Nat))).setCell ⟨w.heap.size + 1, 4, none⟩ (.int .i64 (z 4 : Nat))) (w.heap.size + 1) 122 #[.int .i64 (z 0 : Nat), .int .i64 (z 1 : Nat), .int .i64 (z 2 : Nat), .int .i64 (z 3 : Nat), .int .i64 (z 4 : Nat)] := by
      simpa using ((((HT.out.set_ 0 (.int .i64 (z 0 : Nat))).set_ 1 (.int .i64 (z 1 : Nat))).set_ 2 (.int .i64 (z 2 : Nat))).set_ 3 (.int .i64 (z 3 : Nat))).set_ 4 (.int .i64 (z 4 : Nat))
    have hB5 : Below w.heap.size w (((((w3.setCell ⟨w.heap.size + 1, 0, none⟩ (.int .i64 (z 0 : Nat))).setCell ⟨w.heap.size + 1, 1, none⟩ (.int .i64 (z 1 : Nat))).setCell ⟨w.heap.size + 1, 2, none⟩ (.int .i64 (z 2 : Nat))).setCell ⟨w.heap.size + 1, 3, none⟩ (.int .i64 (z 3 : Nat))).setCell ⟨w.heap.size + 1, 4, none⟩ (.int .i64 (z 4 : Nat))) :=
      ((((HB2.out.setCell (p := ⟨w.heap.size + 1, 0, none⟩) (Nat.le_succ _) _).setCell (p := ⟨w.heap.size + 1, 1, none⟩) (Nat.le_succ _) _).setCell (p := ⟨w.heap.size + 1, 2, none⟩) (Nat.le_succ _) _).setCell (p := ⟨w.heap.size + 1, 3, none⟩) (Nat.le_succ _) _).setCell (p := ⟨w.heap.size + 1, 4, none⟩) (Nat.le_succ _) _
    simp only [hz'] at hR hB5
    generalize (((((w3.setCell ⟨w.heap.size + 1, 0, none⟩ (.int .i64 ((0 : Nat) : Int))).setCell ⟨w.heap.size + 1, 1, none⟩ (.int .i64 ((0 : Nat) : Int))).setCell ⟨w.heap.size + 1, 2, none⟩ (.int .i64 ((0 : Nat) : Int))).setCell ⟨w.heap.size + 1, 3, none⟩ (.int .i64 ((0 : Nat) : Int))).setCell ⟨w.heap.size + 1, 4, none⟩ (.int .i64 ((0 : Nat) : Int))) = w5 at hR hB5 ⊢
    have q0 : w5.cell? ⟨w.heap.size + 1, 0, none⟩ = some (.int .i64 0) := by rw [hR.cell]; rfl
    have q1 : w5.cell? ⟨w.heap.size + 1, 1, none⟩ = some (.int .i64 0) := by rw [hR.cell]; rfl
    have q2 : w5.cell? ⟨w.heap.size + 1, 2, none⟩ = some (.int .i64 0) := by rw [hR.cell]; rfl
    have q3 : w5.cell? ⟨w.heap.size + 1, 3, none⟩ = some (.int .i64 0) := by rw [hR.cell]; rfl
    have q4 : w5.cell? ⟨w.heap.size + 1, 4, none⟩ = some (.int .i64 0) := by rw [hR.cell]; rfl
    refine bodyPost_ret (v := .agg #[.int .i64 0, .int .i64 0, .int .i64 0, .int .i64 0, .int .i64 0]) (by simp [results, Tryd.results79, go_sem, q0, q1, q2, q3, q4]) rfl ⟨?_, hB5⟩
    rw [E0.out, E0.out, E0.out, E0.out, E0.out]
    rfl
/-- sets that are the same -/
def eqS (s t : Nat → Nat) : Bool := (((s 0 : Nat) : Int) == (t 0 : Nat)) && ((((s 1 : Nat) : Int) == (t 1 : Nat)) && ((((s 2 : Nat) : Int) == (t 2 : Nat)) && ((((s 3 : Nat) : Int) == (t 3 : Nat)) && (((s 4 : Nat) : Int) == (t 4 : Nat)))))
theorem eq_set5 (a b c d e a' b' c' d' e' : Int) (w : World) : (Op.equalIn 10000 122 (.agg #[.int .i64 a, .int .i64 b, .int .i64 c, .int .i64 d, .int .i64 e]) (.agg #[.int .i64 a', .int .i64 b', .int .i64 c', .int .i64 d', .int .i64 e'])).run Tryd.prog w = .ok (a == a' && (b == b' && (c == c' && (d == d' && e == e')))) w := by
  have u3 := Tryd.underlying3
  have a3 := Tryd.isAgg3
  have z3 := Tryd.sizeOf3
  rw [show (10000 : Nat) = 9999 + 1 from rfl, Op.equalIn]
  simp only [Sem.run_bind, run_underlying Tryd.underlying122, Result.andThen_ok]
  simp only [Std.Legacy.Range.forIn_eq_forIn_range', Std.Legacy.Range.size, Nat.sub_zero, Nat.add_sub_cancel, Nat.div_one, List.range'_succ, List.range'_zero, List.forIn_cons, List.forIn_nil]
  go_simp
  by_cases h1 : a = a' <;> by_cases h2 : b = b' <;> by_cases h3 : c = c' <;> by_cases h4 : d = d' <;> by_cases h5 : e = e' <;> simp [h1, h2, h3, h4, h5]
/-- a rule that is more special -/
def spc (s t : Nat → Nat) : Bool := !eqS s t && inTo s t 5
theorem special_any (s t : Nat → Nat) (w : World) (hs : ∀ k, s k < 65536) (ht : ∀ k, t k < 65536) :
    Calls Tryd.prog 68 #[(.agg #[.int .i64 (s 0 : Nat), .int .i64 (s 1 : Nat), .int .i64 (s 2 : Nat), .int .i64 (s 3 : Nat), .int .i64 (s 4 : Nat)]), (.agg #[.int .i64 (t 0 : Nat), .int .i64 (t 1 : Nat), .int .i64 (t 2 : Nat), .int .i64 (t 3 : Nat), .int .i64 (t 4 : Nat)])] w fun e w' => e = .returned (.bool (spc s t)) ∧ Below w.heap.size w w' := by
  have HB0 := hide (((Below.refl w.heap.size w).alloc (Nat.le_refl _) (.cells #[.int .i64 (s 0 : Nat), .int .i64 (s 1 : Nat), .int .i64 (s 2 : Nat), .int .i64 (s 3 : Nat), .int .i64 (s 4 : Nat)] 122)).alloc (by simp) (.cells #[.int .i64 (t 0 : Nat), .int .i64 (t 1 : Nat), .int .i64 (t 2 : Nat), .int .i64 (t 3 : Nat), .int .i64 (t 4 : Nat)] 122))
  have S1 := (Blk.new w 122 #[.int .i64 (s 0 : Nat), .int .i64 (s 1 : Nat), .int .i64 (s 2 : Nat), .int .i64 (s 3 : Nat), .int .i64 (s 4 : Nat)]).alloc (.cells #[.int .i64 (t 0 : Nat), .int .i64 (t 1 : Nat), .int .i64 (t 2 : Nat), .int .i64 (t 3 : Nat), .int .i64 (t 4 : Nat)] 122)
  have T1 := (show Blk _ (w.heap.size + 1) _ _ from by simpa using (Blk.new (w.alloc (.cells #[.int .i64 (s 0 : Nat), .int .i64 (s 1 : Nat), .int .i64 (s 2 : Nat), .int .i64 (s 3 : Nat), .int .i64 (s 4 : Nat)] 122)) 122 #[.int .i64 (t 0 : Nat), .int .i64 (t 1 : Nat), .int .i64 (t 2 : Nat), .int .i64 (t 3 : Nat), .int .i64 (t 4 : Nat)]))
  have HIN : Hid (∀ W, Calls Tryd.prog 85 #[(.agg #[.int .i64 (s 0 : Nat), .int .i64 (s 1 : Nat), .int .i64 (s 2 : Nat), .int .i64 (s 3 : Nat), .int .i64 (s 4 : Nat)]), (.agg #[.int .i64 (t 0 : Nat), .int .i64 (t 1 : Nat), .int .i64 (t 2 : Nat), .int .i64 (t 3 : Nat), .int .i64 (t 4 : Nat)])] W fun e w' => e = .returned (.bool (inTo s t 5)) ∧ Below W.heap.size W w') := hide fun W => in_any s t W hs ht
  unfold spc
  obtain ⟨q, hq⟩ : ∃ q, eqS s t = q := ⟨_, rfl⟩
  rw [hq]
  generalize inTo s t 5 = b at HIN ⊢
  go_enter Tryd.func68, Tryd.ntmps68
  go_upto_region 1 with fail
  generalize ((w.alloc (.cells #[.int .i64 (s 0 : Nat), .int .i64 (s 1 : Nat), .int .i64 (s 2 : Nat), .int .i64 (s 3 : Nat), .int .i64 (s 4 : Nat)] 122)).alloc (.cells #[.int .i64 (t 0 : Nat), .int .i64 (t 1 : Nat), .int .i64 (t 2 : Nat), .int .i64 (t 3 : Nat), .int .i64 (t 4 : Nat)] 122)) = w1 at HB0 S1 T1 ⊢
  have s0 := set5_at S1 (k := 0) (by omega)
  have s1 := set5_at S1 (k := 1) (by omega)
  have s2 := set5_at S1 (k := 2) (by omega)
  have s3 := set5_at S1 (k := 3) (by omega)
  have s4 := set5_at S1 (k := 4) (by omega)
  have t0 := set5_at T1 (k := 0) (by omega)
  have t1 := set5_at T1 (k := 1) (by omega)
  have t2 := set5_at T1 (k := 2) (by omega)
  have t3 := set5_at T1 (k := 3) (by omega)
  have t4 := set5_at T1 (k := 4) (by omega)
  clear S1 T1
  have heq := fun W => eq_set5 (s 0 : Nat) (s 1 : Nat) (s 2 : Nat) (s 3 : Nat) (s 4 : Nat) (t 0 : Nat) (t 1 : Nat) (t 2 : Nat) (t 3 : Nat) (t 4 : Nat) W
  unfold eqS at hq
  simp only [hq] at heq
  clear hq
  rcases q with _ | _
  · go_wp2_with fail
    refine (HIN.out _).mono ?_
    rintro e w2 ⟨rfl, hb2⟩
    go_wp2_with fail
    go_ret
    exact ⟨by first | rfl | simp, HB0.out.trans (hb2.mono HB0.out.size)⟩
  · go_wp2_with fail
    go_ret
    exact ⟨by first | rfl | simp, HB0.out⟩
end Go.Proofs.YtmpegkojencbjaaDoor
