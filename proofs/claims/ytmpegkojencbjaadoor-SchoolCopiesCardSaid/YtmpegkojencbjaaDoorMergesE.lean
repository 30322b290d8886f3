/- School: the editor's edit, walked: no error. -/
import Derived.Test.YtmpegkojencbjaaDoorMergesD
set_option linter.unusedSimpArgs false
set_option linter.unusedVariables false
set_option linter.unnecessarySimpa false
namespace Go.Proofs.YtmpegkojencbjaaDoor
open List renaming getElem_toArray → glA, getElem_cons_zero → glB, getElem_cons_succ → glC, setIfInBounds_toArray → glD, set_cons_zero → glE, set_cons_succ → glF
open Go Go.RowKit Go.Shelf
set_option maxHeartbeats 4000000
set_option maxRecDepth 100000
theorem SR.one (W : World) (x : Wd) : SR (W.alloc (.cells #[.string x] 9)) (W.alloc (.cells #[.string x] 9)).heap.size (some ⟨W.heap.size, 0, none⟩) [x] := fun _ => by
  refine ⟨W.heap.size, 0, rfl, by simp, fun k i hk hi => ?_⟩
  have hk : k = 0 := by simp at hk; exact hk
  obtain rfl := hk
  obtain rfl : i = 0 := by omega
  have h := (Blk.new W 9 #[.string x]).cell 0
  simpa using h
section
variable {w W : World} {X : Nat} {A : Option Addr} {c : Nat} {a : List Wd} {i : Nat} {v : Value} {l : List Wd}
theorem EX.ext {W' : World} (h : EX w W X A c a i v l) (hb : Below W.heap.size W W') : EX w W' X A c a i v l :=
  ⟨h.below.trans (hb.mono h.below.size), h.lo, h.blk.ext hb, h.own.ext hb⟩
/-- a word is put behind -/
theorem EX.push (h : EX w W X A c a i v l) (x : Wd) (hl : l.length ≤ 1000000 - 1) :
    ∃ A' n' c' w', (Builtin.append_ #[22, 22] 22 #[v, .slice (some ⟨W.heap.size, 0, none⟩) 1 1]).run Tryd.prog (W.alloc (.cells #[.string x] 9)) = .ok (.slice A' n' c') w' ∧
      Blk w' X 92 #[.slice A a.length c, .int .i64 i, v] ∧ (W.alloc (.cells #[.string x] 9)).grownBy w' v.ownBlock ∧
      EX w (w'.setCell ⟨X, 2, none⟩ (.slice A' n' c')) X A c a i (.slice A' n' c') (l ++ [x]) ∧ KX W (w'.setCell ⟨X, 2, none⟩ (.slice A' n' c')) X v.ownBlock ∧
      ((Value.slice A' n' c').ownBlock = v.ownBlock ∨ ∀ k, (Value.slice A' n' c').ownBlock = some k → W.heap.size ≤ k) := by
  have hBA : Below W.heap.size W (W.alloc (.cells #[.string x] 9)) := (Below.refl _ _).alloc (Nat.le_refl _) _
  have h1 := h.ext hBA
  obtain ⟨v', w', hr, ho, hg, hrow⟩ := h1.own.pushes (some ⟨W.heap.size, 0, none⟩) 1 [x] (SR.one W x) (by simp; omega) h1.below.size
  obtain ⟨A', c', hv'⟩ := own_shape ho
  subst hv'
  have hb : Blk w' X 92 #[.slice A a.length c, .int .i64 i, v] := h1.blk.grown hg (fun e => own_blk_ne h1.own h1.blk (by decide) e.symm)
  refine ⟨A', _, c', w', hr, hb, hg, ⟨((h1.below.grown hg h1.below.size (fun k hk => (World.ownsRow.lt h1.own k hk).1)).setCell h1.lo _), h1.lo, ?_, ?_⟩, ((KX.of_below X _ hBA).grown hg).set 2 _, hrow.imp id (fun h k hk => ?_)⟩
  · exact hb.set_ 2 _
  · exact World.ownsRow.kept ho (grownBy_setC w' X 2 _) (.inr (own_blk_ne ho hb (by decide)))
  · rw [h] at hk
    injection hk with hk
    have := hBA.size
    omega
/-- the editor's place is set -/
theorem EX.move (h : EX w W X A c a i v l) (j : Nat) : EX w (W.setCell ⟨X, 1, none⟩ (.int .i64 j)) X A c a j v l :=
  ⟨h.below.setCell h.lo _, h.lo, h.blk.set_ 1 _, World.ownsRow.kept h.own (grownBy_setC W X 1 _) (.inr (own_blk_ne h.own h.blk (by decide)))⟩
end
theorem KX.both {W w2 w4 : World} {X : Nat} {v v2 v3 : Value} (h : KX W w2 X v.ownBlock) (hr : v2.ownBlock = v.ownBlock ∨ ∀ k, v2.ownBlock = some k → W.heap.size ≤ k) (h2 : KX w2 w4 X v2.ownBlock) (hr2 : v3.ownBlock = v2.ownBlock ∨ ∀ k, v3.ownBlock = some k → w2.heap.size ≤ k) :
    KX W w4 X v.ownBlock ∧ (v3.ownBlock = v.ownBlock ∨ ∀ k, v3.ownBlock = some k → W.heap.size ≤ k) := by
  have hs := h.size
  refine ⟨h.trans h2 hr, ?_⟩
  rcases hr2 with e | h3
  · rw [e]; exact hr
  · exact .inr (fun k hk => Nat.le_trans hs (h3 k hk))
/-- what an edit that is done leaves -/
def EdPost (w W : World) (X : Nat) (A : Option Addr) (c : Nat) (a : List Wd) (j : Nat) (v : Value) (l' : List Wd) (e : Ending) (w' : World) : Prop :=
  ∃ v', e = .returned (.int .i64 0) ∧ EX w w' X A c a j v' l' ∧ KX W w' X v.ownBlock ∧ (v'.ownBlock = v.ownBlock ∨ ∀ k, v'.ownBlock = some k → W.heap.size ≤ k)
theorem edit_add (w W : World) (X : Nat) (A : Option Addr) (c : Nat) (a : List Wd) (i : Nat) (v : Value) (l : List Wd) (t : Nat) (old new : Wd) (hX : EX w W X A c a i v l) (hA : SR w w.heap.size A a) (hit : i ≤ t) (hta : t ≤ a.length) (hac : a.length ≤ c) (hc : c ≤ maxLen) (hl : l.length + t ≤ 100000) :
    Calls Tryd.prog 56 #[.pointer (some ⟨X, 0, none⟩), .agg #[.int .i64 3, .int .i64 (t : Nat), .string old, .string new]] W (EdPost w W X A c a t v (takeL a i t l ++ [new])) := by
  have HB0 := hide ((Below.refl W.heap.size W).alloc (Nat.le_refl _) (.cells #[.int .i64 3, .int .i64 (t : Nat), .string old, .string new] 86))
  have E1 := Blk.new W 86 #[.int .i64 3, .int .i64 (t : Nat), .string old, .string new]
  have X1 := hX.ext HB0.out
  have hown := World.ownsRow.lt hX.own
  obtain ⟨n, hn⟩ : ∃ n, a.length = n := ⟨_, rfl⟩
  obtain ⟨g, hg⟩ : ∃ g, W.heap.size = g := ⟨_, rfl⟩
  rw [hg] at E1 hown
  obtain ⟨w1, hw1⟩ : ∃ w1, W.alloc (.cells #[.int .i64 3, .int .i64 (t : Nat), .string old, .string new] 86) = w1 := ⟨_, rfl⟩
  rw [hw1] at E1 X1 HB0
  have HS1 : Hid (∀ V, Below w1.heap.size w1 V → V.cell? ⟨X, 0, none⟩ = some (.slice A n c) ∧ V.cell? ⟨g, 0, none⟩ = some (.int .i64 3) ∧ V.cell? ⟨g, 1, none⟩ = some (.int .i64 (t : Nat)) ∧ V.cell? ⟨g, 2, none⟩ = some (.string old) ∧ V.cell? ⟨g, 3, none⟩ = some (.string new)) := hide (fun V h => by
    have h2 := X1.blk.ext h
    rw [hn] at h2
    exact ⟨(blk3 h2).2.1, (blk4 (E1.ext h)).2⟩)
  have HGX : Hid (g ≠ X) := hide (E1.ne_ X1.blk (by decide))
  have HT : Hid (∀ V, Below w1.heap.size w1 V → Calls Tryd.prog 57 #[.pointer (some ⟨X, 0, none⟩), .int .i64 t] V fun e w' => ∃ v', e = .returned (.tuple #[]) ∧ EX w w' X A c a t v' (takeL a i t l) ∧ KX V w' X v.ownBlock ∧ (v'.ownBlock = v.ownBlock ∨ ∀ k, v'.ownBlock = some k → V.heap.size ≤ k)) := hide (fun V h => take_any w V X A c a i t v l (X1.ext h) hA hit hta hac hc (by omega))
  have HL2 : Hid ((takeL a i t l).length ≤ 1000000 - 1) := hide (by unfold takeL; rw [List.length_append, List.length_take]; omega)
  have HE1 := hide E1
  have HOWN := hide hown
  have HSZ := hide hg
  have hgs : g < w1.heap.size := E1.lt
  rw [hn] at hta hac
  unfold maxLen at hc
  unfold EdPost
  clear E1 X1 hX hA hown
  have k1 : ¬ (n : Int) < (t : Int) := by omega
  have m0 : (3 : Int) ≠ 2 := by omega
  rw [hg]
  by_cases hn2 : t = n
  · have k2 : ((t : Int) == (n : Int)) = true := by rw [hn2]; exact beq_self_eq_true _
    have k3 : (t == n) = true := by rw [hn2]; exact beq_self_eq_true _
    clear hn2 hta
    go_enter Tryd.func56, Tryd.ntmps56
    go_upto_region 1 with fail
    have HBD := hide ((Below.refl w1.heap.size w1).drew)
    refine wp_region_J (fun W : World => W.cell? ⟨X, 0, none⟩ = some (.slice A n c) ∧ W.cell? ⟨g, 0, none⟩ = some (.int .i64 3) ∧ W.cell? ⟨g, 1, none⟩ = some (.int .i64 (t : Nat)) ∧ W.cell? ⟨g, 2, none⟩ = some (.string old) ∧ W.cell? ⟨g, 3, none⟩ = some (.string new)) (by kernel_rfl) ?_
    generalize w1.drew = wd at HBD ⊢
    have hs1 := HS1.out _ HBD.out
    refine wpAnyJ_take 0 (v := ?_) (by first | exact hF | exact wideFn) (hs1) rfl (by kernel_rfl) (by kernel_rfl) (by kernel_rfl) (by kernel_rfl) rfl ?_ (by first | exact fun _ _ _ h => h | exact fun _ _ _ h => hQ2 _ _ _ _ _ h) ?_
    rotate_left
    · intro W hSW
      simp only [glA, glB, glC]
      (try dsimp only at hSW)
      go_simp
      with_reducible rfl
    (try simp only [glA, glB, glC, Act.put, glD, glE, glF])
    refine wpAnyJ_take 1 (v := ?_) (by first | exact hF | exact wideFn) (hs1) rfl (by kernel_rfl) (by kernel_rfl) (by kernel_rfl) (by kernel_rfl) rfl ?_ (by first | exact fun _ _ _ h => h | exact fun _ _ _ h => hQ2 _ _ _ _ _ h) ?_
    rotate_left
    · intro W hSW
      simp only [glA, glB, glC]
      (try dsimp only at hSW)
      go_simp
      with_reducible rfl
    (try simp only [glA, glB, glC, Act.put, glD, glE, glF])
    refine wpAnyJ_take 2 (v := ?_) (by first | exact hF | exact wideFn) (hs1) rfl (by kernel_rfl) (by kernel_rfl) (by kernel_rfl) (by kernel_rfl) rfl ?_ (by first | exact fun _ _ _ h => h | exact fun _ _ _ h => hQ2 _ _ _ _ _ h) ?_
    rotate_left
    · intro W hSW
      simp only [glA, glB, glC]
      (try dsimp only at hSW)
      go_simp
      with_reducible rfl
    (try simp only [glA, glB, glC, Act.put, glD, glE, glF])
    refine wpAnyJ_take 3 (v := ?_) (by first | exact hF | exact wideFn) (hs1) rfl (by kernel_rfl) (by kernel_rfl) (by kernel_rfl) (by kernel_rfl) rfl ?_ (by first | exact fun _ _ _ h => h | exact fun _ _ _ h => hQ2 _ _ _ _ _ h) ?_
    rotate_left
    · intro W hSW
      simp only [glA, glB, glC]
      (try dsimp only at hSW)
      go_simp
      with_reducible rfl
    (try simp only [glA, glB, glC, Act.put, glD, glE, glF])
    refine wpAnyJ_take 4 (v := ?_) (by first | exact hF | exact wideFn) (hs1) rfl (by kernel_rfl) (by kernel_rfl) (by kernel_rfl) (by kernel_rfl) rfl ?_ (by first | exact fun _ _ _ h => h | exact fun _ _ _ h => hQ2 _ _ _ _ _ h) ?_
    rotate_left
    · intro W hSW
      simp only [glA, glB, glC]
      (try dsimp only at hSW)
      go_simp
      with_reducible rfl
    (try simp only [glA, glB, glC, Act.put, glD, glE, glF])
    refine wpAnyJ_take 5 (v := ?_) (by first | exact hF | exact wideFn) (hs1) rfl (by kernel_rfl) (by kernel_rfl) (by kernel_rfl) (by kernel_rfl) rfl ?_ (by first | exact fun _ _ _ h => h | exact fun _ _ _ h => hQ2 _ _ _ _ _ h) ?_
    rotate_left
    · intro W hSW
      simp only [glA, glB, glC]
      (try dsimp only at hSW)
      go_simp
      with_reducible rfl
    (try simp only [glA, glB, glC, Act.put, glD, glE, glF])
    refine wpAnyJ_take 6 (v := ?_) (by first | exact hF | exact wideFn) (hs1) rfl (by kernel_rfl) (by kernel_rfl) (by kernel_rfl) (by kernel_rfl) rfl ?_ (by first | exact fun _ _ _ h => h | exact fun _ _ _ h => hQ2 _ _ _ _ _ h) ?_
    rotate_left
    · intro W hSW
      simp only [glA, glB, glC]
      (try dsimp only at hSW)
      go_simp
      with_reducible rfl
    (try simp only [glA, glB, glC, Act.put, glD, glE, glF])
    refine wpAnyJ_take 7 (v := ?_) (by first | exact hF | exact wideFn) (hs1) rfl (by kernel_rfl) (by kernel_rfl) (by kernel_rfl) (by kernel_rfl) rfl ?_ (by first | exact fun _ _ _ h => h | exact fun _ _ _ h => hQ2 _ _ _ _ _ h) ?_
    rotate_left
    · intro W hSW
      simp only [glA, glB, glC]
      (try dsimp only at hSW)
      go_simp
      with_reducible rfl
    (try simp only [glA, glB, glC, Act.put, glD, glE, glF])
    refine wpAnyJ_take 8 (v := ?_) (by first | exact hF | exact wideFn) (hs1) rfl (by kernel_rfl) (by kernel_rfl) (by kernel_rfl) (by kernel_rfl) rfl ?_ (by first | exact fun _ _ _ h => h | exact fun _ _ _ h => hQ2 _ _ _ _ _ h) ?_
    rotate_left
    · intro W hSW
      simp only [glA, glB, glC]
      (try dsimp only at hSW)
      go_simp
      with_reducible rfl
    (try simp only [glA, glB, glC, Act.put, glD, glE, glF])
    refine wpAnyJ_take 9 (v := ?_) (by first | exact hF | exact wideFn) (hs1) rfl (by kernel_rfl) (by kernel_rfl) (by kernel_rfl) (by kernel_rfl) rfl ?_ (by first | exact fun _ _ _ h => h | exact fun _ _ _ h => hQ2 _ _ _ _ _ h) ?_
    rotate_left
    · intro W hSW
      simp only [glA, glB, glC]
      (try dsimp only at hSW)
      go_simp
      with_reducible rfl
    (try simp only [glA, glB, glC, Act.put, glD, glE, glF])
    refine wpAnyJ_take 10 (v := ?_) (by first | exact hF | exact wideFn) (hs1) rfl (by kernel_rfl) (by kernel_rfl) (by kernel_rfl) (by kernel_rfl) rfl ?_ (by first | exact fun _ _ _ h => h | exact fun _ _ _ h => hQ2 _ _ _ _ _ h) ?_
    rotate_left
    · intro W hSW
      simp only [glA, glB, glC]
      (try dsimp only at hSW)
      go_simp
      with_reducible rfl
    (try simp only [glA, glB, glC, Act.put, glD, glE, glF])
    refine wpAnyJ_take 11 (v := ?_) (by first | exact hF | exact wideFn) (hs1) rfl (by kernel_rfl) (by kernel_rfl) (by kernel_rfl) (by kernel_rfl) rfl ?_ (by first | exact fun _ _ _ h => h | exact fun _ _ _ h => hQ2 _ _ _ _ _ h) ?_
    rotate_left
    · intro W hSW
      simp only [glA, glB, glC]
      (try dsimp only at hSW)
      go_simp
      with_reducible rfl
    (try simp only [glA, glB, glC, Act.put, glD, glE, glF])
    refine wpAnyJ_take 12 (v := ?_) (by first | exact hF | exact wideFn) (hs1) rfl (by kernel_rfl) (by kernel_rfl) (by kernel_rfl) (by kernel_rfl) rfl ?_ (by first | exact fun _ _ _ h => h | exact fun _ _ _ h => hQ2 _ _ _ _ _ h) ?_
    rotate_left
    · intro W hSW
      simp only [glA, glB, glC]
      (try dsimp only at hSW)
      go_simp
      with_reducible rfl
    (try simp only [glA, glB, glC, Act.put, glD, glE, glF])
    refine wpAnyJ_take 13 (v := ?_) (by first | exact hF | exact wideFn) (hs1) rfl (by kernel_rfl) (by kernel_rfl) (by kernel_rfl) (by kernel_rfl) rfl ?_ (by first | exact fun _ _ _ h => h | exact fun _ _ _ h => hQ2 _ _ _ _ _ h) ?_
    rotate_left
    · intro W hSW
      simp only [glA, glB, glC]
      (try dsimp only at hSW)
      go_simp
      with_reducible rfl
    (try simp only [glA, glB, glC, Act.put, glD, glE, glF])
    refine wpAnyJ_take 14 (v := ?_) (by first | exact hF | exact wideFn) (hs1) rfl (by kernel_rfl) (by kernel_rfl) (by kernel_rfl) (by kernel_rfl) rfl ?_ (by first | exact fun _ _ _ h => h | exact fun _ _ _ h => hQ2 _ _ _ _ _ h) ?_
    rotate_left
    · intro W hSW
      simp only [glA, glB, glC]
      (try dsimp only at hSW)
      go_simp
      with_reducible rfl
    (try simp only [glA, glB, glC, Act.put, glD, glE, glF])
    refine wpAnyJ_take 15 (v := ?_) (by first | exact hF | exact wideFn) (hs1) rfl (by kernel_rfl) (by kernel_rfl) (by kernel_rfl) (by kernel_rfl) rfl ?_ (by first | exact fun _ _ _ h => h | exact fun _ _ _ h => hQ2 _ _ _ _ _ h) ?_
    rotate_left
    · intro W hSW
      simp only [glA, glB, glC]
      (try dsimp only at hSW)
      go_simp
      with_reducible rfl
    (try simp only [glA, glB, glC, Act.put, glD, glE, glF])
    refine wpAnyJ_take 16 (v := ?_) (by first | exact hF | exact wideFn) (hs1) rfl (by kernel_rfl) (by kernel_rfl) (by kernel_rfl) (by kernel_rfl) rfl ?_ (by first | exact fun _ _ _ h => h | exact fun _ _ _ h => hQ2 _ _ _ _ _ h) ?_
    rotate_left
    · intro W hSW
      simp only [glA, glB, glC]
      (try dsimp only at hSW)
      go_simp
      with_reducible rfl
    (try simp only [glA, glB, glC, Act.put, glD, glE, glF])
    refine wpAnyJ_take 17 (v := ?_) (by first | exact hF | exact wideFn) (hs1) rfl (by kernel_rfl) (by kernel_rfl) (by kernel_rfl) (by kernel_rfl) rfl ?_ (by first | exact fun _ _ _ h => h | exact fun _ _ _ h => hQ2 _ _ _ _ _ h) ?_
    rotate_left
    · intro W hSW
      simp only [glA, glB, glC]
      (try dsimp only at hSW)
      go_simp
      with_reducible rfl
    (try simp only [glA, glB, glC, Act.put, glD, glE, glF])
    refine wpAnyJ_take 18 (v := ?_) (by first | exact hF | exact wideFn) (hs1) rfl (by kernel_rfl) (by kernel_rfl) (by kernel_rfl) (by kernel_rfl) rfl ?_ (by first | exact fun _ _ _ h => h | exact fun _ _ _ h => hQ2 _ _ _ _ _ h) ?_
    rotate_left
    · intro W hSW
      simp only [glA, glB, glC]
      (try dsimp only at hSW)
      go_simp
      with_reducible rfl
    (try simp only [glA, glB, glC, Act.put, glD, glE, glF])
    refine wpAnyJ_take 19 (v := ?_) (by first | exact hF | exact wideFn) (hs1) rfl (by kernel_rfl) (by kernel_rfl) (by kernel_rfl) (by kernel_rfl) rfl ?_ (by first | exact fun _ _ _ h => h | exact fun _ _ _ h => hQ2 _ _ _ _ _ h) ?_
    rotate_left
    · intro W hSW
      simp only [glA, glB, glC]
      (try dsimp only at hSW)
      go_simp
      with_reducible rfl
    (try simp only [glA, glB, glC, Act.put, glD, glE, glF])
    refine wpAnyJ_take 20 (v := ?_) (by first | exact hF | exact wideFn) (hs1) rfl (by kernel_rfl) (by kernel_rfl) (by kernel_rfl) (by kernel_rfl) rfl ?_ (by first | exact fun _ _ _ h => h | exact fun _ _ _ h => hQ2 _ _ _ _ _ h) ?_
    rotate_left
    · intro W hSW
      simp only [glA, glB, glC]
      (try dsimp only at hSW)
      go_simp
      with_reducible rfl
    (try simp only [glA, glB, glC, Act.put, glD, glE, glF])
    refine wpAnyJ_take 21 (v := ?_) (by first | exact hF | exact wideFn) (hs1) rfl (by kernel_rfl) (by kernel_rfl) (by kernel_rfl) (by kernel_rfl) rfl ?_ (by first | exact fun _ _ _ h => h | exact fun _ _ _ h => hQ2 _ _ _ _ _ h) ?_
    rotate_left
    · intro W hSW
      simp only [glA, glB, glC]
      (try dsimp only at hSW)
      go_simp
      with_reducible rfl
    (try simp only [glA, glB, glC, Act.put, glD, glE, glF])
    refine wpAnyJ_take 22 (v := ?_) (by first | exact hF | exact wideFn) (hs1) rfl (by kernel_rfl) (by kernel_rfl) (by kernel_rfl) (by kernel_rfl) rfl ?_ (by first | exact fun _ _ _ h => h | exact fun _ _ _ h => hQ2 _ _ _ _ _ h) ?_
    rotate_left
    · intro W hSW
      simp only [glA, glB, glC]
      (try dsimp only at hSW)
      go_simp
      with_reducible rfl
    (try simp only [glA, glB, glC, Act.put, glD, glE, glF])
    refine wpAnyJ_done (by kernel_rfl) ?_
    go_upto_region 3 with fail
    have HBE := hide (HBD.out.trans ((Below.refl wd.heap.size wd).drew.mono HBD.out.size))
    refine wp_region_J (fun W : World => W.cell? ⟨X, 0, none⟩ = some (.slice A n c) ∧ W.cell? ⟨g, 0, none⟩ = some (.int .i64 3) ∧ W.cell? ⟨g, 1, none⟩ = some (.int .i64 (t : Nat)) ∧ W.cell? ⟨g, 2, none⟩ = some (.string old) ∧ W.cell? ⟨g, 3, none⟩ = some (.string new)) (by kernel_rfl) ?_
    generalize wd.drew = we at HBE ⊢
    have hs3 := HS1.out _ HBE.out
    refine wpAnyJ_take 0 (v := ?_) (by first | exact hF | exact wideFn) (hs3) rfl (by kernel_rfl) (by kernel_rfl) (by kernel_rfl) (by kernel_rfl) rfl ?_ (by first | exact fun _ _ _ h => h | exact fun _ _ _ h => hQ2 _ _ _ _ _ h) ?_
    rotate_left
    · intro W hSW
      simp only [glA, glB, glC]
      (try dsimp only at hSW)
      go_simp
      with_reducible rfl
    (try simp only [glA, glB, glC, Act.put, glD, glE, glF])
    refine wpAnyJ_take 1 (v := ?_) (by first | exact hF | exact wideFn) (hs3) rfl (by kernel_rfl) (by kernel_rfl) (by kernel_rfl) (by kernel_rfl) rfl ?_ (by first | exact fun _ _ _ h => h | exact fun _ _ _ h => hQ2 _ _ _ _ _ h) ?_
    rotate_left
    · intro W hSW
      simp only [glA, glB, glC]
      (try dsimp only at hSW)
      go_simp
      with_reducible rfl
    (try simp only [glA, glB, glC, Act.put, glD, glE, glF])
    refine wpAnyJ_take 2 (v := ?_) (by first | exact hF | exact wideFn) (hs3) rfl (by kernel_rfl) (by kernel_rfl) (by kernel_rfl) (by kernel_rfl) rfl ?_ (by first | exact fun _ _ _ h => h | exact fun _ _ _ h => hQ2 _ _ _ _ _ h) ?_
    rotate_left
    · intro W hSW
      simp only [glA, glB, glC]
      (try dsimp only at hSW)
      go_simp
      with_reducible rfl
    (try simp only [glA, glB, glC, Act.put, glD, glE, glF])
    refine wpAnyJ_take 3 (v := ?_) (by first | exact hF | exact wideFn) (hs3) rfl (by kernel_rfl) (by kernel_rfl) (by kernel_rfl) (by kernel_rfl) rfl ?_ (by first | exact fun _ _ _ h => h | exact fun _ _ _ h => hQ2 _ _ _ _ _ h) ?_
    rotate_left
    · intro W hSW
      simp only [glA, glB, glC]
      (try dsimp only at hSW)
      go_simp
      with_reducible rfl
    (try simp only [glA, glB, glC, Act.put, glD, glE, glF])
    refine wpAnyJ_skip 4 (by first | exact hF | exact wideFn) (hs3) rfl (by kernel_rfl) (by kernel_rfl) (by kernel_rfl) (by kernel_rfl) rfl (by first | exact fun _ _ _ h => h | exact fun _ _ _ h => hQ2 _ _ _ _ _ h) ?_
    (try simp only [glA, glB, glC, Act.put, glD, glE, glF])
    refine wpAnyJ_skip 5 (by first | exact hF | exact wideFn) (hs3) rfl (by kernel_rfl) (by kernel_rfl) (by kernel_rfl) (by kernel_rfl) rfl (by first | exact fun _ _ _ h => h | exact fun _ _ _ h => hQ2 _ _ _ _ _ h) ?_
    (try simp only [glA, glB, glC, Act.put, glD, glE, glF])
    refine wpAnyJ_skip 6 (by first | exact hF | exact wideFn) (hs3) rfl (by kernel_rfl) (by kernel_rfl) (by kernel_rfl) (by kernel_rfl) rfl (by first | exact fun _ _ _ h => h | exact fun _ _ _ h => hQ2 _ _ _ _ _ h) ?_
    (try simp only [glA, glB, glC, Act.put, glD, glE, glF])
    refine wpAnyJ_skip 7 (by first | exact hF | exact wideFn) (hs3) rfl (by kernel_rfl) (by kernel_rfl) (by kernel_rfl) (by kernel_rfl) rfl (by first | exact fun _ _ _ h => h | exact fun _ _ _ h => hQ2 _ _ _ _ _ h) ?_
    (try simp only [glA, glB, glC, Act.put, glD, glE, glF])
    refine wpAnyJ_skip 8 (by first | exact hF | exact wideFn) (hs3) rfl (by kernel_rfl) (by kernel_rfl) (by kernel_rfl) (by kernel_rfl) rfl (by first | exact fun _ _ _ h => h | exact fun _ _ _ h => hQ2 _ _ _ _ _ h) ?_
    (try simp only [glA, glB, glC, Act.put, glD, glE, glF])
    refine wpAnyJ_skip 9 (by first | exact hF | exact wideFn) (hs3) rfl (by kernel_rfl) (by kernel_rfl) (by kernel_rfl) (by kernel_rfl) rfl (by first | exact fun _ _ _ h => h | exact fun _ _ _ h => hQ2 _ _ _ _ _ h) ?_
    (try simp only [glA, glB, glC, Act.put, glD, glE, glF])
    refine wpAnyJ_skip 10 (by first | exact hF | exact wideFn) (hs3) rfl (by kernel_rfl) (by kernel_rfl) (by kernel_rfl) (by kernel_rfl) rfl (by first | exact fun _ _ _ h => h | exact fun _ _ _ h => hQ2 _ _ _ _ _ h) ?_
    (try simp only [glA, glB, glC, Act.put, glD, glE, glF])
    refine wpAnyJ_skip 11 (by first | exact hF | exact wideFn) (hs3) rfl (by kernel_rfl) (by kernel_rfl) (by kernel_rfl) (by kernel_rfl) rfl (by first | exact fun _ _ _ h => h | exact fun _ _ _ h => hQ2 _ _ _ _ _ h) ?_
    (try simp only [glA, glB, glC, Act.put, glD, glE, glF])
    refine wpAnyJ_skip 12 (by first | exact hF | exact wideFn) (hs3) rfl (by kernel_rfl) (by kernel_rfl) (by kernel_rfl) (by kernel_rfl) rfl (by first | exact fun _ _ _ h => h | exact fun _ _ _ h => hQ2 _ _ _ _ _ h) ?_
    (try simp only [glA, glB, glC, Act.put, glD, glE, glF])
    refine wpAnyJ_skip 13 (by first | exact hF | exact wideFn) (hs3) rfl (by kernel_rfl) (by kernel_rfl) (by kernel_rfl) (by kernel_rfl) rfl (by first | exact fun _ _ _ h => h | exact fun _ _ _ h => hQ2 _ _ _ _ _ h) ?_
    (try simp only [glA, glB, glC, Act.put, glD, glE, glF])
    refine wpAnyJ_skip 14 (by first | exact hF | exact wideFn) (hs3) rfl (by kernel_rfl) (by kernel_rfl) (by kernel_rfl) (by kernel_rfl) rfl (by first | exact fun _ _ _ h => h | exact fun _ _ _ h => hQ2 _ _ _ _ _ h) ?_
    (try simp only [glA, glB, glC, Act.put, glD, glE, glF])
    refine wpAnyJ_take 15 (v := ?_) (by first | exact hF | exact wideFn) (hs3) rfl (by kernel_rfl) (by kernel_rfl) (by kernel_rfl) (by kernel_rfl) rfl ?_ (by first | exact fun _ _ _ h => h | exact fun _ _ _ h => hQ2 _ _ _ _ _ h) ?_
    rotate_left
    · intro W hSW
      simp only [glA, glB, glC]
      (try dsimp only at hSW)
      go_simp
      with_reducible rfl
    (try simp only [glA, glB, glC, Act.put, glD, glE, glF])
    refine wpAnyJ_done (by kernel_rfl) ?_
    have hs5 := hs3.2.2.1
    go_wp2_with fail
    refine (HT.out _ HBE.out).mono ?_
    rintro e w2 ⟨v2, rfl, hX2, hK2, hr2⟩
    have HX2 := hide hX2
    have E2 := hide ((HE1.out.ext HBE.out).kx hK2 HGX.out (fun e => by have := HOWN.out g e.symm; omega))
    have HNE : Hid (some g ≠ v2.ownBlock) := hide (fun e => by
      rcases hr2 with h | h
      · rw [h] at e
        have := HOWN.out g e.symm
        omega
      · have := h g e.symm
        have := HBE.out.size
        omega)
    have HK2 := hide (And.intro hK2 hr2)
    clear hX2 hK2 hr2 hs1 hs3 hs5
    obtain ⟨g0', g0, -⟩ := blk4 E2.out
    obtain ⟨A3, n3, c3, w3, hrun, hb3, hg3, hX3, hK3, hr3⟩ := (HX2.out.ext (Below.refl w2.heap.size w2).drew).push new (by have := HL2.out; omega)
    try dsimp only at hrun
    have E3 := ((E2.out.ext (Below.refl w2.heap.size w2).drew).alloc (.cells #[.string new] 9)).grown hg3 (fun e => HNE.out e)
    have HS7 : Hid (w2.drew.cell? ⟨X, 2, none⟩ = some v2 ∧ w2.drew.cell? ⟨g, 3, none⟩ = some (.string new)) := hide ⟨(blk3 (HX2.out.blk.drew)).2.2.2.1, (blk4 (E2.out.drew)).2.2.2.2⟩
    have HS8 : Hid ((w2.drew.alloc (.cells #[.string new] 9)).cell? ⟨X, 2, none⟩ = some v2 ∧ (w2.drew.alloc (.cells #[.string new] 9)).cell? ⟨g, 3, none⟩ = some (.string new)) := hide ⟨(blk3 (HX2.out.blk.drew.alloc _)).2.2.2.1, (blk4 (E2.out.drew.alloc _)).2.2.2.2⟩
    have HS9 : Hid (w3.cell? ⟨X, 2, none⟩ = some v2 ∧ w3.cell? ⟨g, 3, none⟩ = some (.string new)) := hide ⟨(blk3 hb3).2.2.2.1, (blk4 E3).2.2.2.2⟩
    have HRUN := hide hrun
    have HX3 := hide hX3
    have HK3 := hide (And.intro hK3 hr3)
    have lX := hb3.lt
    have fX := hb3.frozen 2
    have hgX : g ≠ X := HGX.out
    have E4 := hide (E3.far (p := ⟨X, 2, none⟩) hgX (.slice A3 n3 c3))
    clear hrun hX3 hK3 hr3 E3 hg3 hb3
    go_upto_region 7 with fail
    refine wp_region_K (pickS [4, 6] (fun W : World => W.cell? ⟨X, 2, none⟩ = some v2 ∧ W.cell? ⟨g, 3, none⟩ = some (.string new)) (fun _ => True)) (by kernel_rfl) ?_
    refine wpAnyK_take 0 (v := ?_) (by first | exact hF | exact wideFn) trivial rfl (by kernel_rfl) (by kernel_rfl) (by kernel_rfl) (by kernel_rfl) rfl ?_ (by first | exact fun _ _ _ h => h | exact fun _ _ _ h => hQ2 _ _ _ _ _ h) ?_
    rotate_left
    · intro W hSW
      replace hSW : True := hSW
      simp only [glA, glB, glC]
      (try dsimp only at hSW)
      go_simp
      with_reducible rfl
    (try simp only [glA, glB, glC, Act.put, glD, glE, glF])
    refine wpAnyK_take 1 (v := ?_) (by first | exact hF | exact wideFn) trivial rfl (by kernel_rfl) (by kernel_rfl) (by kernel_rfl) (by kernel_rfl) rfl ?_ (by first | exact fun _ _ _ h => h | exact fun _ _ _ h => hQ2 _ _ _ _ _ h) ?_
    rotate_left
    · intro W hSW
      replace hSW : True := hSW
      simp only [glA, glB, glC]
      (try dsimp only at hSW)
      go_simp
      with_reducible rfl
    (try simp only [glA, glB, glC, Act.put, glD, glE, glF])
    refine wpAnyK_take 2 (v := ?_) (by first | exact hF | exact wideFn) trivial rfl (by kernel_rfl) (by kernel_rfl) (by kernel_rfl) (by kernel_rfl) rfl ?_ (by first | exact fun _ _ _ h => h | exact fun _ _ _ h => hQ2 _ _ _ _ _ h) ?_
    rotate_left
    · intro W hSW
      replace hSW : True := hSW
      simp only [glA, glB, glC]
      (try dsimp only at hSW)
      go_simp
      with_reducible rfl
    (try simp only [glA, glB, glC, Act.put, glD, glE, glF])
    refine wpAnyK_take 3 (v := ?_) (by first | exact hF | exact wideFn) trivial rfl (by kernel_rfl) (by kernel_rfl) (by kernel_rfl) (by kernel_rfl) rfl ?_ (by first | exact fun _ _ _ h => h | exact fun _ _ _ h => hQ2 _ _ _ _ _ h) ?_
    rotate_left
    · intro W hSW
      replace hSW : True := hSW
      simp only [glA, glB, glC]
      (try dsimp only at hSW)
      go_simp
      with_reducible rfl
    (try simp only [glA, glB, glC, Act.put, glD, glE, glF])
    refine wpAnyK_take 4 (v := ?_) (by first | exact hF | exact wideFn) (And.intro HS7.out trivial) rfl (by kernel_rfl) (by kernel_rfl) (by kernel_rfl) (by kernel_rfl) rfl ?_ (by first | exact fun _ _ _ h => h | exact fun _ _ _ h => hQ2 _ _ _ _ _ h) ?_
    rotate_left
    · intro W hSW
      replace hSW : ((W.cell? ⟨X, 2, none⟩ = some v2 ∧ W.cell? ⟨g, 3, none⟩ = some (.string new)) ∧ True) := hSW
      simp only [glA, glB, glC]
      (try dsimp only at hSW)
      go_simp
      with_reducible rfl
    (try simp only [glA, glB, glC, Act.put, glD, glE, glF])
    refine wpAnyK_take 5 (v := ?_) (by first | exact hF | exact wideFn) trivial rfl (by kernel_rfl) (by kernel_rfl) (by kernel_rfl) (by kernel_rfl) rfl ?_ (by first | exact fun _ _ _ h => h | exact fun _ _ _ h => hQ2 _ _ _ _ _ h) ?_
    rotate_left
    · intro W hSW
      replace hSW : True := hSW
      simp only [glA, glB, glC]
      (try dsimp only at hSW)
      go_simp
      with_reducible rfl
    (try simp only [glA, glB, glC, Act.put, glD, glE, glF])
    refine wpAnyK_take 6 (v := ?_) (by first | exact hF | exact wideFn) (And.intro HS7.out trivial) rfl (by kernel_rfl) (by kernel_rfl) (by kernel_rfl) (by kernel_rfl) rfl ?_ (by first | exact fun _ _ _ h => h | exact fun _ _ _ h => hQ2 _ _ _ _ _ h) ?_
    rotate_left
    · intro W hSW
      replace hSW : ((W.cell? ⟨X, 2, none⟩ = some v2 ∧ W.cell? ⟨g, 3, none⟩ = some (.string new)) ∧ True) := hSW
      simp only [glA, glB, glC]
      (try dsimp only at hSW)
      go_simp
      with_reducible rfl
    (try simp only [glA, glB, glC, Act.put, glD, glE, glF])
    refine wpAnyK_one 7 rfl (by kernel_rfl) (fun K hK => ?_)
    simp only [glA, glB, glC]
    go_simp
    refine hK.out _ _ (.inr (pickS_all HS8.out trivial)) ?_
    clear hK K
    (try simp only [glA, glB, glC, Act.put, glD, glE, glF])
    refine wpAnyK_one 8 rfl (by kernel_rfl) (fun K hK => ?_)
    rw [if_pos (by rfl)]
    refine wpIn_append_run (.tmp 55) (.tmp 58) 22 (by first | exact hF | exact wideFn) rfl rfl rfl HRUN.out ?_
    refine hK.out _ _ (.inr (pickS_all HS9.out trivial)) ?_
    clear hK K
    (try simp only [glA, glB, glC, Act.put, glD, glE, glF])
    refine wpAnyK_take 9 (v := ?_) (by first | exact hF | exact wideFn) trivial rfl (by kernel_rfl) (by kernel_rfl) (by kernel_rfl) (by kernel_rfl) rfl ?_ (by first | exact fun _ _ _ h => h | exact fun _ _ _ h => hQ2 _ _ _ _ _ h) ?_
    rotate_left
    · intro W hSW
      replace hSW : True := hSW
      simp only [glA, glB, glC]
      (try dsimp only at hSW)
      go_simp
      with_reducible rfl
    (try simp only [glA, glB, glC, Act.put, glD, glE, glF])
    refine wpAnyK_take 10 (v := ?_) (by first | exact hF | exact wideFn) trivial rfl (by kernel_rfl) (by kernel_rfl) (by kernel_rfl) (by kernel_rfl) rfl ?_ (by first | exact fun _ _ _ h => h | exact fun _ _ _ h => hQ2 _ _ _ _ _ h) ?_
    rotate_left
    · intro W hSW
      replace hSW : True := hSW
      simp only [glA, glB, glC]
      (try dsimp only at hSW)
      go_simp
      with_reducible rfl
    (try simp only [glA, glB, glC, Act.put, glD, glE, glF])
    have cX := HS9.out.1
    refine wpAnyK_one 11 rfl (by kernel_rfl) (fun K hK => ?_)
    simp only [glA, glB, glC]
    go_simp
    refine hK.out _ _ (.inr (pickS_need (by kernel_rfl) trivial)) ?_
    clear hK K
    (try simp only [glA, glB, glC, Act.put, glD, glE, glF])
    refine wpAnyK_done (by kernel_rfl) ?_
    clear cX lX fX
    generalize (w3.setCell ⟨X, 2, none⟩ (.slice A3 n3 c3)) = w4 at HX3 HK3 E4 ⊢
    obtain ⟨g0, g1, -⟩ := blk4 E4.out
    go_wp2_with fail
    go_ret
    have hWe : Below W.heap.size W we := HB0.out.trans (HBE.out.mono HB0.out.size)
    have q1 := KX.both (v := v) (v2 := v) (v3 := v2) (KX.of_below X _ hWe) (.inl rfl) HK2.out.1 HK2.out.2
    have q2 : KX w2 w4 X v2.ownBlock := (KX.of_below X v2.ownBlock (Below.refl w2.heap.size w2).drew).trans HK3.out.1 (.inl rfl)
    have q3 := KX.both (v := v) (v2 := v2) (v3 := .slice A3 n3 c3) q1.1 q1.2 q2 HK3.out.2
    rw [hg] at q3
    exact ⟨_, rfl, HX3.out, q3.1, q3.2⟩
  · have k2 : ((t : Int) == (n : Int)) = false := by rw [beq_eq_false_iff_ne]; omega
    have k3 : (t == n) = false := by rw [beq_eq_false_iff_ne]; omega
    clear hta
    go_enter Tryd.func56, Tryd.ntmps56
    go_upto_region 1 with fail
    have HBD := hide ((Below.refl w1.heap.size w1).drew)
    refine wp_region_J (fun W : World => W.cell? ⟨X, 0, none⟩ = some (.slice A n c) ∧ W.cell? ⟨g, 0, none⟩ = some (.int .i64 3) ∧ W.cell? ⟨g, 1, none⟩ = some (.int .i64 (t : Nat)) ∧ W.cell? ⟨g, 2, none⟩ = some (.string old) ∧ W.cell? ⟨g, 3, none⟩ = some (.string new)) (by kernel_rfl) ?_
    generalize w1.drew = wd at HBD ⊢
    have hs1 := HS1.out _ HBD.out
    refine wpAnyJ_take 0 (v := ?_) (by first | exact hF | exact wideFn) (hs1) rfl (by kernel_rfl) (by kernel_rfl) (by kernel_rfl) (by kernel_rfl) rfl ?_ (by first | exact fun _ _ _ h => h | exact fun _ _ _ h => hQ2 _ _ _ _ _ h) ?_
    rotate_left
    · intro W hSW
      simp only [glA, glB, glC]
      (try dsimp only at hSW)
      go_simp
      with_reducible rfl
    (try simp only [glA, glB, glC, Act.put, glD, glE, glF])
    refine wpAnyJ_take 1 (v := ?_) (by first | exact hF | exact wideFn) (hs1) rfl (by kernel_rfl) (by kernel_rfl) (by kernel_rfl) (by kernel_rfl) rfl ?_ (by first | exact fun _ _ _ h => h | exact fun _ _ _ h => hQ2 _ _ _ _ _ h) ?_
    rotate_left
    · intro W hSW
      simp only [glA, glB, glC]
      (try dsimp only at hSW)
      go_simp
      with_reducible rfl
    (try simp only [glA, glB, glC, Act.put, glD, glE, glF])
    refine wpAnyJ_take 2 (v := ?_) (by first | exact hF | exact wideFn) (hs1) rfl (by kernel_rfl) (by kernel_rfl) (by kernel_rfl) (by kernel_rfl) rfl ?_ (by first | exact fun _ _ _ h => h | exact fun _ _ _ h => hQ2 _ _ _ _ _ h) ?_
    rotate_left
    · intro W hSW
      simp only [glA, glB, glC]
      (try dsimp only at hSW)
      go_simp
      with_reducible rfl
    (try simp only [glA, glB, glC, Act.put, glD, glE, glF])
    refine wpAnyJ_take 3 (v := ?_) (by first | exact hF | exact wideFn) (hs1) rfl (by kernel_rfl) (by kernel_rfl) (by kernel_rfl) (by kernel_rfl) rfl ?_ (by first | exact fun _ _ _ h => h | exact fun _ _ _ h => hQ2 _ _ _ _ _ h) ?_
    rotate_left
    · intro W hSW
      simp only [glA, glB, glC]
      (try dsimp only at hSW)
      go_simp
      with_reducible rfl
    (try simp only [glA, glB, glC, Act.put, glD, glE, glF])
    refine wpAnyJ_take 4 (v := ?_) (by first | exact hF | exact wideFn) (hs1) rfl (by kernel_rfl) (by kernel_rfl) (by kernel_rfl) (by kernel_rfl) rfl ?_ (by first | exact fun _ _ _ h => h | exact fun _ _ _ h => hQ2 _ _ _ _ _ h) ?_
    rotate_left
    · intro W hSW
      simp only [glA, glB, glC]
      (try dsimp only at hSW)
      go_simp
      with_reducible rfl
    (try simp only [glA, glB, glC, Act.put, glD, glE, glF])
    refine wpAnyJ_take 5 (v := ?_) (by first | exact hF | exact wideFn) (hs1) rfl (by kernel_rfl) (by kernel_rfl) (by kernel_rfl) (by kernel_rfl) rfl ?_ (by first | exact fun _ _ _ h => h | exact fun _ _ _ h => hQ2 _ _ _ _ _ h) ?_
    rotate_left
    · intro W hSW
      simp only [glA, glB, glC]
      (try dsimp only at hSW)
      go_simp
      with_reducible rfl
    (try simp only [glA, glB, glC, Act.put, glD, glE, glF])
    refine wpAnyJ_take 6 (v := ?_) (by first | exact hF | exact wideFn) (hs1) rfl (by kernel_rfl) (by kernel_rfl) (by kernel_rfl) (by kernel_rfl) rfl ?_ (by first | exact fun _ _ _ h => h | exact fun _ _ _ h => hQ2 _ _ _ _ _ h) ?_
    rotate_left
    · intro W hSW
      simp only [glA, glB, glC]
      (try dsimp only at hSW)
      go_simp
      with_reducible rfl
    (try simp only [glA, glB, glC, Act.put, glD, glE, glF])
    refine wpAnyJ_take 7 (v := ?_) (by first | exact hF | exact wideFn) (hs1) rfl (by kernel_rfl) (by kernel_rfl) (by kernel_rfl) (by kernel_rfl) rfl ?_ (by first | exact fun _ _ _ h => h | exact fun _ _ _ h => hQ2 _ _ _ _ _ h) ?_
    rotate_left
    · intro W hSW
      simp only [glA, glB, glC]
      (try dsimp only at hSW)
      go_simp
      with_reducible rfl
    (try simp only [glA, glB, glC, Act.put, glD, glE, glF])
    refine wpAnyJ_take 8 (v := ?_) (by first | exact hF | exact wideFn) (hs1) rfl (by kernel_rfl) (by kernel_rfl) (by kernel_rfl) (by kernel_rfl) rfl ?_ (by first | exact fun _ _ _ h => h | exact fun _ _ _ h => hQ2 _ _ _ _ _ h) ?_
    rotate_left
    · intro W hSW
      simp only [glA, glB, glC]
      (try dsimp only at hSW)
      go_simp
      with_reducible rfl
    (try simp only [glA, glB, glC, Act.put, glD, glE, glF])
    refine wpAnyJ_take 9 (v := ?_) (by first | exact hF | exact wideFn) (hs1) rfl (by kernel_rfl) (by kernel_rfl) (by kernel_rfl) (by kernel_rfl) rfl ?_ (by first | exact fun _ _ _ h => h | exact fun _ _ _ h => hQ2 _ _ _ _ _ h) ?_
    rotate_left
    · intro W hSW
      simp only [glA, glB, glC]
      (try dsimp only at hSW)
      go_simp
      with_reducible rfl
    (try simp only [glA, glB, glC, Act.put, glD, glE, glF])
    refine wpAnyJ_take 10 (v := ?_) (by first | exact hF | exact wideFn) (hs1) rfl (by kernel_rfl) (by kernel_rfl) (by kernel_rfl) (by kernel_rfl) rfl ?_ (by first | exact fun _ _ _ h => h | exact fun _ _ _ h => hQ2 _ _ _ _ _ h) ?_
    rotate_left
    · intro W hSW
      simp only [glA, glB, glC]
      (try dsimp only at hSW)
      go_simp
      with_reducible rfl
    (try simp only [glA, glB, glC, Act.put, glD, glE, glF])
    refine wpAnyJ_take 11 (v := ?_) (by first | exact hF | exact wideFn) (hs1) rfl (by kernel_rfl) (by kernel_rfl) (by kernel_rfl) (by kernel_rfl) rfl ?_ (by first | exact fun _ _ _ h => h | exact fun _ _ _ h => hQ2 _ _ _ _ _ h) ?_
    rotate_left
    · intro W hSW
      simp only [glA, glB, glC]
      (try dsimp only at hSW)
      go_simp
      with_reducible rfl
    (try simp only [glA, glB, glC, Act.put, glD, glE, glF])
    refine wpAnyJ_take 12 (v := ?_) (by first | exact hF | exact wideFn) (hs1) rfl (by kernel_rfl) (by kernel_rfl) (by kernel_rfl) (by kernel_rfl) rfl ?_ (by first | exact fun _ _ _ h => h | exact fun _ _ _ h => hQ2 _ _ _ _ _ h) ?_
    rotate_left
    · intro W hSW
      simp only [glA, glB, glC]
      (try dsimp only at hSW)
      go_simp
      with_reducible rfl
    (try simp only [glA, glB, glC, Act.put, glD, glE, glF])
    refine wpAnyJ_take 13 (v := ?_) (by first | exact hF | exact wideFn) (hs1) rfl (by kernel_rfl) (by kernel_rfl) (by kernel_rfl) (by kernel_rfl) rfl ?_ (by first | exact fun _ _ _ h => h | exact fun _ _ _ h => hQ2 _ _ _ _ _ h) ?_
    rotate_left
    · intro W hSW
      simp only [glA, glB, glC]
      (try dsimp only at hSW)
      go_simp
      with_reducible rfl
    (try simp only [glA, glB, glC, Act.put, glD, glE, glF])
    refine wpAnyJ_take 14 (v := ?_) (by first | exact hF | exact wideFn) (hs1) rfl (by kernel_rfl) (by kernel_rfl) (by kernel_rfl) (by kernel_rfl) rfl ?_ (by first | exact fun _ _ _ h => h | exact fun _ _ _ h => hQ2 _ _ _ _ _ h) ?_
    rotate_left
    · intro W hSW
      simp only [glA, glB, glC]
      (try dsimp only at hSW)
      go_simp
      with_reducible rfl
    (try simp only [glA, glB, glC, Act.put, glD, glE, glF])
    refine wpAnyJ_take 15 (v := ?_) (by first | exact hF | exact wideFn) (hs1) rfl (by kernel_rfl) (by kernel_rfl) (by kernel_rfl) (by kernel_rfl) rfl ?_ (by first | exact fun _ _ _ h => h | exact fun _ _ _ h => hQ2 _ _ _ _ _ h) ?_
    rotate_left
    · intro W hSW
      simp only [glA, glB, glC]
      (try dsimp only at hSW)
      go_simp
      with_reducible rfl
    (try simp only [glA, glB, glC, Act.put, glD, glE, glF])
    refine wpAnyJ_take 16 (v := ?_) (by first | exact hF | exact wideFn) (hs1) rfl (by kernel_rfl) (by kernel_rfl) (by kernel_rfl) (by kernel_rfl) rfl ?_ (by first | exact fun _ _ _ h => h | exact fun _ _ _ h => hQ2 _ _ _ _ _ h) ?_
    rotate_left
    · intro W hSW
      simp only [glA, glB, glC]
      (try dsimp only at hSW)
      go_simp
      with_reducible rfl
    (try simp only [glA, glB, glC, Act.put, glD, glE, glF])
    refine wpAnyJ_take 17 (v := ?_) (by first | exact hF | exact wideFn) (hs1) rfl (by kernel_rfl) (by kernel_rfl) (by kernel_rfl) (by kernel_rfl) rfl ?_ (by first | exact fun _ _ _ h => h | exact fun _ _ _ h => hQ2 _ _ _ _ _ h) ?_
    rotate_left
    · intro W hSW
      simp only [glA, glB, glC]
      (try dsimp only at hSW)
      go_simp
      with_reducible rfl
    (try simp only [glA, glB, glC, Act.put, glD, glE, glF])
    refine wpAnyJ_skip 18 (by first | exact hF | exact wideFn) (hs1) rfl (by kernel_rfl) (by kernel_rfl) (by kernel_rfl) (by kernel_rfl) rfl (by first | exact fun _ _ _ h => h | exact fun _ _ _ h => hQ2 _ _ _ _ _ h) ?_
    (try simp only [glA, glB, glC, Act.put, glD, glE, glF])
    refine wpAnyJ_skip 19 (by first | exact hF | exact wideFn) (hs1) rfl (by kernel_rfl) (by kernel_rfl) (by kernel_rfl) (by kernel_rfl) rfl (by first | exact fun _ _ _ h => h | exact fun _ _ _ h => hQ2 _ _ _ _ _ h) ?_
    (try simp only [glA, glB, glC, Act.put, glD, glE, glF])
    refine wpAnyJ_skip 20 (by first | exact hF | exact wideFn) (hs1) rfl (by kernel_rfl) (by kernel_rfl) (by kernel_rfl) (by kernel_rfl) rfl (by first | exact fun _ _ _ h => h | exact fun _ _ _ h => hQ2 _ _ _ _ _ h) ?_
    (try simp only [glA, glB, glC, Act.put, glD, glE, glF])
    refine wpAnyJ_take 21 (v := ?_) (by first | exact hF | exact wideFn) (hs1) rfl (by kernel_rfl) (by kernel_rfl) (by kernel_rfl) (by kernel_rfl) rfl ?_ (by first | exact fun _ _ _ h => h | exact fun _ _ _ h => hQ2 _ _ _ _ _ h) ?_
    rotate_left
    · intro W hSW
      simp only [glA, glB, glC]
      (try dsimp only at hSW)
      go_simp
      with_reducible rfl
    (try simp only [glA, glB, glC, Act.put, glD, glE, glF])
    refine wpAnyJ_take 22 (v := ?_) (by first | exact hF | exact wideFn) (hs1) rfl (by kernel_rfl) (by kernel_rfl) (by kernel_rfl) (by kernel_rfl) rfl ?_ (by first | exact fun _ _ _ h => h | exact fun _ _ _ h => hQ2 _ _ _ _ _ h) ?_
    rotate_left
    · intro W hSW
      simp only [glA, glB, glC]
      (try dsimp only at hSW)
      go_simp
      with_reducible rfl
    (try simp only [glA, glB, glC, Act.put, glD, glE, glF])
    refine wpAnyJ_done (by kernel_rfl) ?_
    go_upto_region 3 with fail
    have HBE := hide (HBD.out.trans ((Below.refl wd.heap.size wd).drew.mono HBD.out.size))
    refine wp_region_J (fun W : World => W.cell? ⟨X, 0, none⟩ = some (.slice A n c) ∧ W.cell? ⟨g, 0, none⟩ = some (.int .i64 3) ∧ W.cell? ⟨g, 1, none⟩ = some (.int .i64 (t : Nat)) ∧ W.cell? ⟨g, 2, none⟩ = some (.string old) ∧ W.cell? ⟨g, 3, none⟩ = some (.string new)) (by kernel_rfl) ?_
    generalize wd.drew = we at HBE ⊢
    have hs3 := HS1.out _ HBE.out
    refine wpAnyJ_take 0 (v := ?_) (by first | exact hF | exact wideFn) (hs3) rfl (by kernel_rfl) (by kernel_rfl) (by kernel_rfl) (by kernel_rfl) rfl ?_ (by first | exact fun _ _ _ h => h | exact fun _ _ _ h => hQ2 _ _ _ _ _ h) ?_
    rotate_left
    · intro W hSW
      simp only [glA, glB, glC]
      (try dsimp only at hSW)
      go_simp
      with_reducible rfl
    (try simp only [glA, glB, glC, Act.put, glD, glE, glF])
    refine wpAnyJ_take 1 (v := ?_) (by first | exact hF | exact wideFn) (hs3) rfl (by kernel_rfl) (by kernel_rfl) (by kernel_rfl) (by kernel_rfl) rfl ?_ (by first | exact fun _ _ _ h => h | exact fun _ _ _ h => hQ2 _ _ _ _ _ h) ?_
    rotate_left
    · intro W hSW
      simp only [glA, glB, glC]
      (try dsimp only at hSW)
      go_simp
      with_reducible rfl
    (try simp only [glA, glB, glC, Act.put, glD, glE, glF])
    refine wpAnyJ_take 2 (v := ?_) (by first | exact hF | exact wideFn) (hs3) rfl (by kernel_rfl) (by kernel_rfl) (by kernel_rfl) (by kernel_rfl) rfl ?_ (by first | exact fun _ _ _ h => h | exact fun _ _ _ h => hQ2 _ _ _ _ _ h) ?_
    rotate_left
    · intro W hSW
      simp only [glA, glB, glC]
      (try dsimp only at hSW)
      go_simp
      with_reducible rfl
    (try simp only [glA, glB, glC, Act.put, glD, glE, glF])
    refine wpAnyJ_take 3 (v := ?_) (by first | exact hF | exact wideFn) (hs3) rfl (by kernel_rfl) (by kernel_rfl) (by kernel_rfl) (by kernel_rfl) rfl ?_ (by first | exact fun _ _ _ h => h | exact fun _ _ _ h => hQ2 _ _ _ _ _ h) ?_
    rotate_left
    · intro W hSW
      simp only [glA, glB, glC]
      (try dsimp only at hSW)
      go_simp
      with_reducible rfl
    (try simp only [glA, glB, glC, Act.put, glD, glE, glF])
    refine wpAnyJ_skip 4 (by first | exact hF | exact wideFn) (hs3) rfl (by kernel_rfl) (by kernel_rfl) (by kernel_rfl) (by kernel_rfl) rfl (by first | exact fun _ _ _ h => h | exact fun _ _ _ h => hQ2 _ _ _ _ _ h) ?_
    (try simp only [glA, glB, glC, Act.put, glD, glE, glF])
    refine wpAnyJ_skip 5 (by first | exact hF | exact wideFn) (hs3) rfl (by kernel_rfl) (by kernel_rfl) (by kernel_rfl) (by kernel_rfl) rfl (by first | exact fun _ _ _ h => h | exact fun _ _ _ h => hQ2 _ _ _ _ _ h) ?_
    (try simp only [glA, glB, glC, Act.put, glD, glE, glF])
    refine wpAnyJ_skip 6 (by first | exact hF | exact wideFn) (hs3) rfl (by kernel_rfl) (by kernel_rfl) (by kernel_rfl) (by kernel_rfl) rfl (by first | exact fun _ _ _ h => h | exact fun _ _ _ h => hQ2 _ _ _ _ _ h) ?_
    (try simp only [glA, glB, glC, Act.put, glD, glE, glF])
    refine wpAnyJ_skip 7 (by first | exact hF | exact wideFn) (hs3) rfl (by kernel_rfl) (by kernel_rfl) (by kernel_rfl) (by kernel_rfl) rfl (by first | exact fun _ _ _ h => h | exact fun _ _ _ h => hQ2 _ _ _ _ _ h) ?_
    (try simp only [glA, glB, glC, Act.put, glD, glE, glF])
    refine wpAnyJ_skip 8 (by first | exact hF | exact wideFn) (hs3) rfl (by kernel_rfl) (by kernel_rfl) (by kernel_rfl) (by kernel_rfl) rfl (by first | exact fun _ _ _ h => h | exact fun _ _ _ h => hQ2 _ _ _ _ _ h) ?_
    (try simp only [glA, glB, glC, Act.put, glD, glE, glF])
    refine wpAnyJ_skip 9 (by first | exact hF | exact wideFn) (hs3) rfl (by kernel_rfl) (by kernel_rfl) (by kernel_rfl) (by kernel_rfl) rfl (by first | exact fun _ _ _ h => h | exact fun _ _ _ h => hQ2 _ _ _ _ _ h) ?_
    (try simp only [glA, glB, glC, Act.put, glD, glE, glF])
    refine wpAnyJ_skip 10 (by first | exact hF | exact wideFn) (hs3) rfl (by kernel_rfl) (by kernel_rfl) (by kernel_rfl) (by kernel_rfl) rfl (by first | exact fun _ _ _ h => h | exact fun _ _ _ h => hQ2 _ _ _ _ _ h) ?_
    (try simp only [glA, glB, glC, Act.put, glD, glE, glF])
    refine wpAnyJ_skip 11 (by first | exact hF | exact wideFn) (hs3) rfl (by kernel_rfl) (by kernel_rfl) (by kernel_rfl) (by kernel_rfl) rfl (by first | exact fun _ _ _ h => h | exact fun _ _ _ h => hQ2 _ _ _ _ _ h) ?_
    (try simp only [glA, glB, glC, Act.put, glD, glE, glF])
    refine wpAnyJ_skip 12 (by first | exact hF | exact wideFn) (hs3) rfl (by kernel_rfl) (by kernel_rfl) (by kernel_rfl) (by kernel_rfl) rfl (by first | exact fun _ _ _ h => h | exact fun _ _ _ h => hQ2 _ _ _ _ _ h) ?_
    (try simp only [glA, glB, glC, Act.put, glD, glE, glF])
    refine wpAnyJ_skip 13 (by first | exact hF | exact wideFn) (hs3) rfl (by kernel_rfl) (by kernel_rfl) (by kernel_rfl) (by kernel_rfl) rfl (by first | exact fun _ _ _ h => h | exact fun _ _ _ h => hQ2 _ _ _ _ _ h) ?_
    (try simp only [glA, glB, glC, Act.put, glD, glE, glF])
    refine wpAnyJ_skip 14 (by first | exact hF | exact wideFn) (hs3) rfl (by kernel_rfl) (by kernel_rfl) (by kernel_rfl) (by kernel_rfl) rfl (by first | exact fun _ _ _ h => h | exact fun _ _ _ h => hQ2 _ _ _ _ _ h) ?_
    (try simp only [glA, glB, glC, Act.put, glD, glE, glF])
    refine wpAnyJ_take 15 (v := ?_) (by first | exact hF | exact wideFn) (hs3) rfl (by kernel_rfl) (by kernel_rfl) (by kernel_rfl) (by kernel_rfl) rfl ?_ (by first | exact fun _ _ _ h => h | exact fun _ _ _ h => hQ2 _ _ _ _ _ h) ?_
    rotate_left
    · intro W hSW
      simp only [glA, glB, glC]
      (try dsimp only at hSW)
      go_simp
      with_reducible rfl
    (try simp only [glA, glB, glC, Act.put, glD, glE, glF])
    refine wpAnyJ_done (by kernel_rfl) ?_
    have hs5 := hs3.2.2.1
    go_wp2_with fail
    refine (HT.out _ HBE.out).mono ?_
    rintro e w2 ⟨v2, rfl, hX2, hK2, hr2⟩
    have HX2 := hide hX2
    have E2 := hide ((HE1.out.ext HBE.out).kx hK2 HGX.out (fun e => by have := HOWN.out g e.symm; omega))
    have HNE : Hid (some g ≠ v2.ownBlock) := hide (fun e => by
      rcases hr2 with h | h
      · rw [h] at e
        have := HOWN.out g e.symm
        omega
      · have := h g e.symm
        have := HBE.out.size
        omega)
    have HK2 := hide (And.intro hK2 hr2)
    clear hX2 hK2 hr2 hs1 hs3 hs5
    obtain ⟨g0', g0, -⟩ := blk4 E2.out
    obtain ⟨A3, n3, c3, w3, hrun, hb3, hg3, hX3, hK3, hr3⟩ := (HX2.out.ext (Below.refl w2.heap.size w2).drew).push new (by have := HL2.out; omega)
    try dsimp only at hrun
    have E3 := ((E2.out.ext (Below.refl w2.heap.size w2).drew).alloc (.cells #[.string new] 9)).grown hg3 (fun e => HNE.out e)
    have HS7 : Hid (w2.drew.cell? ⟨X, 2, none⟩ = some v2 ∧ w2.drew.cell? ⟨g, 3, none⟩ = some (.string new)) := hide ⟨(blk3 (HX2.out.blk.drew)).2.2.2.1, (blk4 (E2.out.drew)).2.2.2.2⟩
    have HS8 : Hid ((w2.drew.alloc (.cells #[.string new] 9)).cell? ⟨X, 2, none⟩ = some v2 ∧ (w2.drew.alloc (.cells #[.string new] 9)).cell? ⟨g, 3, none⟩ = some (.string new)) := hide ⟨(blk3 (HX2.out.blk.drew.alloc _)).2.2.2.1, (blk4 (E2.out.drew.alloc _)).2.2.2.2⟩
    have HS9 : Hid (w3.cell? ⟨X, 2, none⟩ = some v2 ∧ w3.cell? ⟨g, 3, none⟩ = some (.string new)) := hide ⟨(blk3 hb3).2.2.2.1, (blk4 E3).2.2.2.2⟩
    have HRUN := hide hrun
    have HX3 := hide hX3
    have HK3 := hide (And.intro hK3 hr3)
    have lX := hb3.lt
    have fX := hb3.frozen 2
    have hgX : g ≠ X := HGX.out
    have E4 := hide (E3.far (p := ⟨X, 2, none⟩) hgX (.slice A3 n3 c3))
    clear hrun hX3 hK3 hr3 E3 hg3 hb3
    go_upto_region 7 with fail
    refine wp_region_K (pickS [4, 6] (fun W : World => W.cell? ⟨X, 2, none⟩ = some v2 ∧ W.cell? ⟨g, 3, none⟩ = some (.string new)) (fun _ => True)) (by kernel_rfl) ?_
    refine wpAnyK_take 0 (v := ?_) (by first | exact hF | exact wideFn) trivial rfl (by kernel_rfl) (by kernel_rfl) (by kernel_rfl) (by kernel_rfl) rfl ?_ (by first | exact fun _ _ _ h => h | exact fun _ _ _ h => hQ2 _ _ _ _ _ h) ?_
    rotate_left
    · intro W hSW
      replace hSW : True := hSW
      simp only [glA, glB, glC]
      (try dsimp only at hSW)
      go_simp
      with_reducible rfl
    (try simp only [glA, glB, glC, Act.put, glD, glE, glF])
    refine wpAnyK_take 1 (v := ?_) (by first | exact hF | exact wideFn) trivial rfl (by kernel_rfl) (by kernel_rfl) (by kernel_rfl) (by kernel_rfl) rfl ?_ (by first | exact fun _ _ _ h => h | exact fun _ _ _ h => hQ2 _ _ _ _ _ h) ?_
    rotate_left
    · intro W hSW
      replace hSW : True := hSW
      simp only [glA, glB, glC]
      (try dsimp only at hSW)
      go_simp
      with_reducible rfl
    (try simp only [glA, glB, glC, Act.put, glD, glE, glF])
    refine wpAnyK_take 2 (v := ?_) (by first | exact hF | exact wideFn) trivial rfl (by kernel_rfl) (by kernel_rfl) (by kernel_rfl) (by kernel_rfl) rfl ?_ (by first | exact fun _ _ _ h => h | exact fun _ _ _ h => hQ2 _ _ _ _ _ h) ?_
    rotate_left
    · intro W hSW
      replace hSW : True := hSW
      simp only [glA, glB, glC]
      (try dsimp only at hSW)
      go_simp
      with_reducible rfl
    (try simp only [glA, glB, glC, Act.put, glD, glE, glF])
    refine wpAnyK_take 3 (v := ?_) (by first | exact hF | exact wideFn) trivial rfl (by kernel_rfl) (by kernel_rfl) (by kernel_rfl) (by kernel_rfl) rfl ?_ (by first | exact fun _ _ _ h => h | exact fun _ _ _ h => hQ2 _ _ _ _ _ h) ?_
    rotate_left
    · intro W hSW
      replace hSW : True := hSW
      simp only [glA, glB, glC]
      (try dsimp only at hSW)
      go_simp
      with_reducible rfl
    (try simp only [glA, glB, glC, Act.put, glD, glE, glF])
    refine wpAnyK_take 4 (v := ?_) (by first | exact hF | exact wideFn) (And.intro HS7.out trivial) rfl (by kernel_rfl) (by kernel_rfl) (by kernel_rfl) (by kernel_rfl) rfl ?_ (by first | exact fun _ _ _ h => h | exact fun _ _ _ h => hQ2 _ _ _ _ _ h) ?_
    rotate_left
    · intro W hSW
      replace hSW : ((W.cell? ⟨X, 2, none⟩ = some v2 ∧ W.cell? ⟨g, 3, none⟩ = some (.string new)) ∧ True) := hSW
      simp only [glA, glB, glC]
      (try dsimp only at hSW)
      go_simp
      with_reducible rfl
    (try simp only [glA, glB, glC, Act.put, glD, glE, glF])
    refine wpAnyK_take 5 (v := ?_) (by first | exact hF | exact wideFn) trivial rfl (by kernel_rfl) (by kernel_rfl) (by kernel_rfl) (by kernel_rfl) rfl ?_ (by first | exact fun _ _ _ h => h | exact fun _ _ _ h => hQ2 _ _ _ _ _ h) ?_
    rotate_left
    · intro W hSW
      replace hSW : True := hSW
      simp only [glA, glB, glC]
      (try dsimp only at hSW)
      go_simp
      with_reducible rfl
    (try simp only [glA, glB, glC, Act.put, glD, glE, glF])
    refine wpAnyK_take 6 (v := ?_) (by first | exact hF | exact wideFn) (And.intro HS7.out trivial) rfl (by kernel_rfl) (by kernel_rfl) (by kernel_rfl) (by kernel_rfl) rfl ?_ (by first | exact fun _ _ _ h => h | exact fun _ _ _ h => hQ2 _ _ _ _ _ h) ?_
    rotate_left
    · intro W hSW
      replace hSW : ((W.cell? ⟨X, 2, none⟩ = some v2 ∧ W.cell? ⟨g, 3, none⟩ = some (.string new)) ∧ True) := hSW
      simp only [glA, glB, glC]
      (try dsimp only at hSW)
      go_simp
      with_reducible rfl
    (try simp only [glA, glB, glC, Act.put, glD, glE, glF])
    refine wpAnyK_one 7 rfl (by kernel_rfl) (fun K hK => ?_)
    simp only [glA, glB, glC]
    go_simp
    refine hK.out _ _ (.inr (pickS_all HS8.out trivial)) ?_
    clear hK K
    (try simp only [glA, glB, glC, Act.put, glD, glE, glF])
    refine wpAnyK_one 8 rfl (by kernel_rfl) (fun K hK => ?_)
    rw [if_pos (by rfl)]
    refine wpIn_append_run (.tmp 55) (.tmp 58) 22 (by first | exact hF | exact wideFn) rfl rfl rfl HRUN.out ?_
    refine hK.out _ _ (.inr (pickS_all HS9.out trivial)) ?_
    clear hK K
    (try simp only [glA, glB, glC, Act.put, glD, glE, glF])
    refine wpAnyK_take 9 (v := ?_) (by first | exact hF | exact wideFn) trivial rfl (by kernel_rfl) (by kernel_rfl) (by kernel_rfl) (by kernel_rfl) rfl ?_ (by first | exact fun _ _ _ h => h | exact fun _ _ _ h => hQ2 _ _ _ _ _ h) ?_
    rotate_left
    · intro W hSW
      replace hSW : True := hSW
      simp only [glA, glB, glC]
      (try dsimp only at hSW)
      go_simp
      with_reducible rfl
    (try simp only [glA, glB, glC, Act.put, glD, glE, glF])
    refine wpAnyK_take 10 (v := ?_) (by first | exact hF | exact wideFn) trivial rfl (by kernel_rfl) (by kernel_rfl) (by kernel_rfl) (by kernel_rfl) rfl ?_ (by first | exact fun _ _ _ h => h | exact fun _ _ _ h => hQ2 _ _ _ _ _ h) ?_
    rotate_left
    · intro W hSW
      replace hSW : True := hSW
      simp only [glA, glB, glC]
      (try dsimp only at hSW)
      go_simp
      with_reducible rfl
    (try simp only [glA, glB, glC, Act.put, glD, glE, glF])
    have cX := HS9.out.1
    refine wpAnyK_one 11 rfl (by kernel_rfl) (fun K hK => ?_)
    simp only [glA, glB, glC]
    go_simp
    refine hK.out _ _ (.inr (pickS_need (by kernel_rfl) trivial)) ?_
    clear hK K
    (try simp only [glA, glB, glC, Act.put, glD, glE, glF])
    refine wpAnyK_done (by kernel_rfl) ?_
    clear cX lX fX
    generalize (w3.setCell ⟨X, 2, none⟩ (.slice A3 n3 c3)) = w4 at HX3 HK3 E4 ⊢
    obtain ⟨g0, g1, -⟩ := blk4 E4.out
    go_wp2_with fail
    go_ret
    have hWe : Below W.heap.size W we := HB0.out.trans (HBE.out.mono HB0.out.size)
    have q1 := KX.both (v := v) (v2 := v) (v3 := v2) (KX.of_below X _ hWe) (.inl rfl) HK2.out.1 HK2.out.2
    have q2 : KX w2 w4 X v2.ownBlock := (KX.of_below X v2.ownBlock (Below.refl w2.heap.size w2).drew).trans HK3.out.1 (.inl rfl)
    have q3 := KX.both (v := v) (v2 := v2) (v3 := .slice A3 n3 c3) q1.1 q1.2 q2 HK3.out.2
    rw [hg] at q3
    exact ⟨_, rfl, HX3.out, q3.1, q3.2⟩
end Go.Proofs.YtmpegkojencbjaaDoor
/- School: the editor's edit, walked: a word that is there. -/
namespace Go.Proofs.YtmpegkojencbjaaDoor
open List renaming getElem_toArray → glA, getElem_cons_zero → glB, getElem_cons_succ → glC, setIfInBounds_toArray → glD, set_cons_zero → glE, set_cons_succ → glF
open Go Go.RowKit Go.Shelf
set_option maxHeartbeats 8000000
set_option maxRecDepth 100000
theorem edit_swap (w W : World) (X : Nat) (A : Option Addr) (c : Nat) (a : List Wd) (i : Nat) (v : Value) (l : List Wd) (ki : Int) (t : Nat) (old new : Wd) (hX : EX w W X A c a i v l) (hA : SR w w.heap.size A a) (hit : i ≤ t) (hta : t < a.length) (h3 : ki ≠ 3) (ho : a.getD t noW = old) (h2 : ki ≠ 2) (hac : a.length ≤ c) (hc : c ≤ maxLen) (hl : l.length + t ≤ 100000) :
    Calls Tryd.prog 56 #[.pointer (some ⟨X, 0, none⟩), .agg #[.int .i64 ki, .int .i64 (t : Nat), .string old, .string new]] W (EdPost w W X A c a (t + 1) v (takeL a i t l ++ [new])) := by
  have HB0 := hide ((Below.refl W.heap.size W).alloc (Nat.le_refl _) (.cells #[.int .i64 ki, .int .i64 (t : Nat), .string old, .string new] 86))
  have E1 := Blk.new W 86 #[.int .i64 ki, .int .i64 (t : Nat), .string old, .string new]
  have X1 := hX.ext HB0.out
  have hown := World.ownsRow.lt hX.own
  obtain ⟨n, hn⟩ : ∃ n, a.length = n := ⟨_, rfl⟩
  obtain ⟨g, hg⟩ : ∃ g, W.heap.size = g := ⟨_, rfl⟩
  obtain ⟨b, off, hAA, hb, hx⟩ := VR1.at_ hA hta
  rw [ho] at hx
  have hx1 := (hX.below.cell (p := ⟨b, off + t, none⟩) hb).trans hx
  have hb1 : b < W.heap.size := by have := hX.below.size; omega
  have hx2 := (HB0.out.cell (p := ⟨b, off + t, none⟩) hb1).trans hx1
  have hb2 : b < (W.alloc (.cells #[.int .i64 ki, .int .i64 (t : Nat), .string old, .string new] 86)).heap.size := by have := HB0.out.size; omega
  subst hAA
  rw [hg] at E1 hown
  obtain ⟨w1, hw1⟩ : ∃ w1, W.alloc (.cells #[.int .i64 ki, .int .i64 (t : Nat), .string old, .string new] 86) = w1 := ⟨_, rfl⟩
  rw [hw1] at E1 X1 HB0 hx2 hb2
  have HS1 : Hid (∀ V, Below w1.heap.size w1 V → V.cell? ⟨X, 0, none⟩ = some (.slice (some ⟨b, off, none⟩) n c) ∧ V.cell? ⟨g, 0, none⟩ = some (.int .i64 ki) ∧ V.cell? ⟨g, 1, none⟩ = some (.int .i64 (t : Nat)) ∧ V.cell? ⟨g, 2, none⟩ = some (.string old) ∧ V.cell? ⟨g, 3, none⟩ = some (.string new) ∧ V.cell? ⟨b, off + t, none⟩ = some (.string old)) := hide (fun V h => by
    have h2 := X1.blk.ext h
    rw [hn] at h2
    obtain ⟨e1, e2, e3, e4⟩ := (blk4 (E1.ext h)).2
    exact ⟨(blk3 h2).2.1, e1, e2, e3, e4, (h.cell (p := ⟨b, off + t, none⟩) hb2).trans hx2⟩)
  have HGX : Hid (g ≠ X) := hide (E1.ne_ X1.blk (by decide))
  have HT : Hid (∀ V, Below w1.heap.size w1 V → Calls Tryd.prog 57 #[.pointer (some ⟨X, 0, none⟩), .int .i64 t] V fun e w' => ∃ v', e = .returned (.tuple #[]) ∧ EX w w' X (some ⟨b, off, none⟩) c a t v' (takeL a i t l) ∧ KX V w' X v.ownBlock ∧ (v'.ownBlock = v.ownBlock ∨ ∀ k, v'.ownBlock = some k → V.heap.size ≤ k)) := hide (fun V h => take_any w V X (some ⟨b, off, none⟩) c a i t v l (X1.ext h) hA hit (by omega) hac hc (by omega))
  have HL2 : Hid ((takeL a i t l).length ≤ 1000000 - 1) := hide (by unfold takeL; rw [List.length_append, List.length_take]; omega)
  have HE1 := hide E1
  have HOWN := hide hown
  have hgs : g < w1.heap.size := E1.lt
  rw [hn] at hta hac
  unfold maxLen at hc
  unfold EdPost
  clear E1 X1 hX hA hown hx hx1 hx2 hb hb1 hb2 ho
  have k1 : ¬ (n : Int) < (t : Int) := by omega
  have k2 : ((t : Int) == (n : Int)) = false := by rw [beq_eq_false_iff_ne]; omega
  have k3 : (t == n) = false := by rw [beq_eq_false_iff_ne]; omega
  have k4 : (0 : Int) ≤ (t : Int) := by omega
  have k5 : (t : Int) < (n : Int) := by omega
  have k6 : ¬ t = n := by omega
  have k7 : (ki == 3) = false := by rw [beq_eq_false_iff_ne]; exact h3
  have k8 : (ki != 3) = true := by simp [h3]
  have k9 : IntKind.i64.wrap ((t : Int) + 1) = ((t + 1 : Nat) : Int) := by rw [IntWalk.i64_in _ (by omega)]; omega
  rw [hg]
  go_enter Tryd.func56, Tryd.ntmps56
  go_upto_region 1 with fail
  have HBD := hide ((Below.refl w1.heap.size w1).drew)
  refine wp_region_J (fun W : World => W.cell? ⟨X, 0, none⟩ = some (.slice (some ⟨b, off, none⟩) n c) ∧ W.cell? ⟨g, 0, none⟩ = some (.int .i64 ki) ∧ W.cell? ⟨g, 1, none⟩ = some (.int .i64 (t : Nat)) ∧ W.cell? ⟨g, 2, none⟩ = some (.string old) ∧ W.cell? ⟨g, 3, none⟩ = some (.string new) ∧ W.cell? ⟨b, off + t, none⟩ = some (.string old)) (by kernel_rfl) ?_
  generalize w1.drew = wd at HBD ⊢
  have hs1 := HS1.out _ HBD.out
  refine wpAnyJ_take 0 (v := ?_) (by first | exact hF | exact wideFn) (hs1) rfl (by kernel_rfl) (by kernel_rfl) (by kernel_rfl) (by kernel_rfl) rfl ?_ (by first | exact fun _ _ _ h => h | exact fun _ _ _ h => hQ2 _ _ _ _ _ h) ?_
  rotate_left
  · intro W hSW
    simp only [glA, glB, glC]
    (try dsimp only at hSW)
    go_simp
    with_reducible rfl
  (try simp only [glA, glB, glC, Act.put, glD, glE, glF])
  refine wpAnyJ_take 1 (v := ?_) (by first | exact hF | exact wideFn) (hs1) rfl (by kernel_rfl) (by kernel_rfl) (by kernel_rfl) (by kernel_rfl) rfl ?_ (by first | exact fun _ _ _ h => h | exact fun _ _ _ h => hQ2 _ _ _ _ _ h) ?_
  rotate_left
  · intro W hSW
    simp only [glA, glB, glC]
    (try dsimp only at hSW)
    go_simp
    with_reducible rfl
  (try simp only [glA, glB, glC, Act.put, glD, glE, glF])
  refine wpAnyJ_take 2 (v := ?_) (by first | exact hF | exact wideFn) (hs1) rfl (by kernel_rfl) (by kernel_rfl) (by kernel_rfl) (by kernel_rfl) rfl ?_ (by first | exact fun _ _ _ h => h | exact fun _ _ _ h => hQ2 _ _ _ _ _ h) ?_
  rotate_left
  · intro W hSW
    simp only [glA, glB, glC]
    (try dsimp only at hSW)
    go_simp
    with_reducible rfl
  (try simp only [glA, glB, glC, Act.put, glD, glE, glF])
  refine wpAnyJ_take 3 (v := ?_) (by first | exact hF | exact wideFn) (hs1) rfl (by kernel_rfl) (by kernel_rfl) (by kernel_rfl) (by kernel_rfl) rfl ?_ (by first | exact fun _ _ _ h => h | exact fun _ _ _ h => hQ2 _ _ _ _ _ h) ?_
  rotate_left
  · intro W hSW
    simp only [glA, glB, glC]
    (try dsimp only at hSW)
    go_simp
    with_reducible rfl
  (try simp only [glA, glB, glC, Act.put, glD, glE, glF])
  refine wpAnyJ_take 4 (v := ?_) (by first | exact hF | exact wideFn) (hs1) rfl (by kernel_rfl) (by kernel_rfl) (by kernel_rfl) (by kernel_rfl) rfl ?_ (by first | exact fun _ _ _ h => h | exact fun _ _ _ h => hQ2 _ _ _ _ _ h) ?_
  rotate_left
  · intro W hSW
    simp only [glA, glB, glC]
    (try dsimp only at hSW)
    go_simp
    with_reducible rfl
  (try simp only [glA, glB, glC, Act.put, glD, glE, glF])
  refine wpAnyJ_take 5 (v := ?_) (by first | exact hF | exact wideFn) (hs1) rfl (by kernel_rfl) (by kernel_rfl) (by kernel_rfl) (by kernel_rfl) rfl ?_ (by first | exact fun _ _ _ h => h | exact fun _ _ _ h => hQ2 _ _ _ _ _ h) ?_
  rotate_left
  · intro W hSW
    simp only [glA, glB, glC]
    (try dsimp only at hSW)
    go_simp
    with_reducible rfl
  (try simp only [glA, glB, glC, Act.put, glD, glE, glF])
  refine wpAnyJ_take 6 (v := ?_) (by first | exact hF | exact wideFn) (hs1) rfl (by kernel_rfl) (by kernel_rfl) (by kernel_rfl) (by kernel_rfl) rfl ?_ (by first | exact fun _ _ _ h => h | exact fun _ _ _ h => hQ2 _ _ _ _ _ h) ?_
  rotate_left
  · intro W hSW
    simp only [glA, glB, glC]
    (try dsimp only at hSW)
    go_simp
    with_reducible rfl
  (try simp only [glA, glB, glC, Act.put, glD, glE, glF])
  refine wpAnyJ_take 7 (v := ?_) (by first | exact hF | exact wideFn) (hs1) rfl (by kernel_rfl) (by kernel_rfl) (by kernel_rfl) (by kernel_rfl) rfl ?_ (by first | exact fun _ _ _ h => h | exact fun _ _ _ h => hQ2 _ _ _ _ _ h) ?_
  rotate_left
  · intro W hSW
    simp only [glA, glB, glC]
    (try dsimp only at hSW)
    go_simp
    with_reducible rfl
  (try simp only [glA, glB, glC, Act.put, glD, glE, glF])
  refine wpAnyJ_take 8 (v := ?_) (by first | exact hF | exact wideFn) (hs1) rfl (by kernel_rfl) (by kernel_rfl) (by kernel_rfl) (by kernel_rfl) rfl ?_ (by first | exact fun _ _ _ h => h | exact fun _ _ _ h => hQ2 _ _ _ _ _ h) ?_
  rotate_left
  · intro W hSW
    simp only [glA, glB, glC]
    (try dsimp only at hSW)
    go_simp
    with_reducible rfl
  (try simp only [glA, glB, glC, Act.put, glD, glE, glF])
  refine wpAnyJ_take 9 (v := ?_) (by first | exact hF | exact wideFn) (hs1) rfl (by kernel_rfl) (by kernel_rfl) (by kernel_rfl) (by kernel_rfl) rfl ?_ (by first | exact fun _ _ _ h => h | exact fun _ _ _ h => hQ2 _ _ _ _ _ h) ?_
  rotate_left
  · intro W hSW
    simp only [glA, glB, glC]
    (try dsimp only at hSW)
    go_simp
    with_reducible rfl
  (try simp only [glA, glB, glC, Act.put, glD, glE, glF])
  refine wpAnyJ_take 10 (v := ?_) (by first | exact hF | exact wideFn) (hs1) rfl (by kernel_rfl) (by kernel_rfl) (by kernel_rfl) (by kernel_rfl) rfl ?_ (by first | exact fun _ _ _ h => h | exact fun _ _ _ h => hQ2 _ _ _ _ _ h) ?_
  rotate_left
  · intro W hSW
    simp only [glA, glB, glC]
    (try dsimp only at hSW)
    go_simp
    with_reducible rfl
  (try simp only [glA, glB, glC, Act.put, glD, glE, glF])
  refine wpAnyJ_take 11 (v := ?_) (by first | exact hF | exact wideFn) (hs1) rfl (by kernel_rfl) (by kernel_rfl) (by kernel_rfl) (by kernel_rfl) rfl ?_ (by first | exact fun _ _ _ h => h | exact fun _ _ _ h => hQ2 _ _ _ _ _ h) ?_
  rotate_left
  · intro W hSW
    simp only [glA, glB, glC]
    (try dsimp only at hSW)
    go_simp
    with_reducible rfl
  (try simp only [glA, glB, glC, Act.put, glD, glE, glF])
  refine wpAnyJ_take 12 (v := ?_) (by first | exact hF | exact wideFn) (hs1) rfl (by kernel_rfl) (by kernel_rfl) (by kernel_rfl) (by kernel_rfl) rfl ?_ (by first | exact fun _ _ _ h => h | exact fun _ _ _ h => hQ2 _ _ _ _ _ h) ?_
  rotate_left
  · intro W hSW
    simp only [glA, glB, glC]
    (try dsimp only at hSW)
    go_simp
    with_reducible rfl
  (try simp only [glA, glB, glC, Act.put, glD, glE, glF])
  refine wpAnyJ_take 13 (v := ?_) (by first | exact hF | exact wideFn) (hs1) rfl (by kernel_rfl) (by kernel_rfl) (by kernel_rfl) (by kernel_rfl) rfl ?_ (by first | exact fun _ _ _ h => h | exact fun _ _ _ h => hQ2 _ _ _ _ _ h) ?_
  rotate_left
  · intro W hSW
    simp only [glA, glB, glC]
    (try dsimp only at hSW)
    go_simp
    with_reducible rfl
  (try simp only [glA, glB, glC, Act.put, glD, glE, glF])
  refine wpAnyJ_take 14 (v := ?_) (by first | exact hF | exact wideFn) (hs1) rfl (by kernel_rfl) (by kernel_rfl) (by kernel_rfl) (by kernel_rfl) rfl ?_ (by first | exact fun _ _ _ h => h | exact fun _ _ _ h => hQ2 _ _ _ _ _ h) ?_
  rotate_left
  · intro W hSW
    simp only [glA, glB, glC]
    (try dsimp only at hSW)
    go_simp
    with_reducible rfl
  (try simp only [glA, glB, glC, Act.put, glD, glE, glF])
  refine wpAnyJ_take 15 (v := ?_) (by first | exact hF | exact wideFn) (hs1) rfl (by kernel_rfl) (by kernel_rfl) (by kernel_rfl) (by kernel_rfl) rfl ?_ (by first | exact fun _ _ _ h => h | exact fun _ _ _ h => hQ2 _ _ _ _ _ h) ?_
  rotate_left
  · intro W hSW
    simp only [glA, glB, glC]
    (try dsimp only at hSW)
    go_simp
    with_reducible rfl
  (try simp only [glA, glB, glC, Act.put, glD, glE, glF])
  refine wpAnyJ_take 16 (v := ?_) (by first | exact hF | exact wideFn) (hs1) rfl (by kernel_rfl) (by kernel_rfl) (by kernel_rfl) (by kernel_rfl) rfl ?_ (by first | exact fun _ _ _ h => h | exact fun _ _ _ h => hQ2 _ _ _ _ _ h) ?_
  rotate_left
  · intro W hSW
    simp only [glA, glB, glC]
    (try dsimp only at hSW)
    go_simp
    with_reducible rfl
  (try simp only [glA, glB, glC, Act.put, glD, glE, glF])
  refine wpAnyJ_take 17 (v := ?_) (by first | exact hF | exact wideFn) (hs1) rfl (by kernel_rfl) (by kernel_rfl) (by kernel_rfl) (by kernel_rfl) rfl ?_ (by first | exact fun _ _ _ h => h | exact fun _ _ _ h => hQ2 _ _ _ _ _ h) ?_
  rotate_left
  · intro W hSW
    simp only [glA, glB, glC]
    (try dsimp only at hSW)
    go_simp
    with_reducible rfl
  (try simp only [glA, glB, glC, Act.put, glD, glE, glF])
  refine wpAnyJ_skip 18 (by first | exact hF | exact wideFn) (hs1) rfl (by kernel_rfl) (by kernel_rfl) (by kernel_rfl) (by kernel_rfl) rfl (by first | exact fun _ _ _ h => h | exact fun _ _ _ h => hQ2 _ _ _ _ _ h) ?_
  (try simp only [glA, glB, glC, Act.put, glD, glE, glF])
  refine wpAnyJ_skip 19 (by first | exact hF | exact wideFn) (hs1) rfl (by kernel_rfl) (by kernel_rfl) (by kernel_rfl) (by kernel_rfl) rfl (by first | exact fun _ _ _ h => h | exact fun _ _ _ h => hQ2 _ _ _ _ _ h) ?_
  (try simp only [glA, glB, glC, Act.put, glD, glE, glF])
  refine wpAnyJ_skip 20 (by first | exact hF | exact wideFn) (hs1) rfl (by kernel_rfl) (by kernel_rfl) (by kernel_rfl) (by kernel_rfl) rfl (by first | exact fun _ _ _ h => h | exact fun _ _ _ h => hQ2 _ _ _ _ _ h) ?_
  (try simp only [glA, glB, glC, Act.put, glD, glE, glF])
  refine wpAnyJ_take 21 (v := ?_) (by first | exact hF | exact wideFn) (hs1) rfl (by kernel_rfl) (by kernel_rfl) (by kernel_rfl) (by kernel_rfl) rfl ?_ (by first | exact fun _ _ _ h => h | exact fun _ _ _ h => hQ2 _ _ _ _ _ h) ?_
  rotate_left
  · intro W hSW
    simp only [glA, glB, glC]
    (try dsimp only at hSW)
    go_simp
    with_reducible rfl
  (try simp only [glA, glB, glC, Act.put, glD, glE, glF])
  refine wpAnyJ_take 22 (v := ?_) (by first | exact hF | exact wideFn) (hs1) rfl (by kernel_rfl) (by kernel_rfl) (by kernel_rfl) (by kernel_rfl) rfl ?_ (by first | exact fun _ _ _ h => h | exact fun _ _ _ h => hQ2 _ _ _ _ _ h) ?_
  rotate_left
  · intro W hSW
    simp only [glA, glB, glC]
    (try dsimp only at hSW)
    go_simp
    with_reducible rfl
  (try simp only [glA, glB, glC, Act.put, glD, glE, glF])
  refine wpAnyJ_done (by kernel_rfl) ?_
  go_upto_region 3 with fail
  have HBE := hide (HBD.out.trans ((Below.refl wd.heap.size wd).drew.mono HBD.out.size))
  refine wp_region_J (fun W : World => W.cell? ⟨X, 0, none⟩ = some (.slice (some ⟨b, off, none⟩) n c) ∧ W.cell? ⟨g, 0, none⟩ = some (.int .i64 ki) ∧ W.cell? ⟨g, 1, none⟩ = some (.int .i64 (t : Nat)) ∧ W.cell? ⟨g, 2, none⟩ = some (.string old) ∧ W.cell? ⟨g, 3, none⟩ = some (.string new) ∧ W.cell? ⟨b, off + t, none⟩ = some (.string old)) (by kernel_rfl) ?_
  generalize wd.drew = we at HBE ⊢
  have hs3 := HS1.out _ HBE.out
  refine wpAnyJ_take 0 (v := ?_) (by first | exact hF | exact wideFn) (hs3) rfl (by kernel_rfl) (by kernel_rfl) (by kernel_rfl) (by kernel_rfl) rfl ?_ (by first | exact fun _ _ _ h => h | exact fun _ _ _ h => hQ2 _ _ _ _ _ h) ?_
  rotate_left
  · intro W hSW
    simp only [glA, glB, glC]
    (try dsimp only at hSW)
    go_simp
    with_reducible rfl
  (try simp only [glA, glB, glC, Act.put, glD, glE, glF])
  refine wpAnyJ_take 1 (v := ?_) (by first | exact hF | exact wideFn) (hs3) rfl (by kernel_rfl) (by kernel_rfl) (by kernel_rfl) (by kernel_rfl) rfl ?_ (by first | exact fun _ _ _ h => h | exact fun _ _ _ h => hQ2 _ _ _ _ _ h) ?_
  rotate_left
  · intro W hSW
    simp only [glA, glB, glC]
    (try dsimp only at hSW)
    go_simp
    with_reducible rfl
  (try simp only [glA, glB, glC, Act.put, glD, glE, glF])
  refine wpAnyJ_take 2 (v := ?_) (by first | exact hF | exact wideFn) (hs3) rfl (by kernel_rfl) (by kernel_rfl) (by kernel_rfl) (by kernel_rfl) rfl ?_ (by first | exact fun _ _ _ h => h | exact fun _ _ _ h => hQ2 _ _ _ _ _ h) ?_
  rotate_left
  · intro W hSW
    simp only [glA, glB, glC]
    (try dsimp only at hSW)
    go_simp
    with_reducible rfl
  (try simp only [glA, glB, glC, Act.put, glD, glE, glF])
  refine wpAnyJ_take 3 (v := ?_) (by first | exact hF | exact wideFn) (hs3) rfl (by kernel_rfl) (by kernel_rfl) (by kernel_rfl) (by kernel_rfl) rfl ?_ (by first | exact fun _ _ _ h => h | exact fun _ _ _ h => hQ2 _ _ _ _ _ h) ?_
  rotate_left
  · intro W hSW
    simp only [glA, glB, glC]
    (try dsimp only at hSW)
    go_simp
    with_reducible rfl
  (try simp only [glA, glB, glC, Act.put, glD, glE, glF])
  refine wpAnyJ_take 4 (v := ?_) (by first | exact hF | exact wideFn) (hs3) rfl (by kernel_rfl) (by kernel_rfl) (by kernel_rfl) (by kernel_rfl) rfl ?_ (by first | exact fun _ _ _ h => h | exact fun _ _ _ h => hQ2 _ _ _ _ _ h) ?_
  rotate_left
  · intro W hSW
    simp only [glA, glB, glC]
    (try dsimp only at hSW)
    go_simp
    with_reducible rfl
  (try simp only [glA, glB, glC, Act.put, glD, glE, glF])
  refine wpAnyJ_take 5 (v := ?_) (by first | exact hF | exact wideFn) (hs3) rfl (by kernel_rfl) (by kernel_rfl) (by kernel_rfl) (by kernel_rfl) rfl ?_ (by first | exact fun _ _ _ h => h | exact fun _ _ _ h => hQ2 _ _ _ _ _ h) ?_
  rotate_left
  · intro W hSW
    simp only [glA, glB, glC]
    (try dsimp only at hSW)
    go_simp
    with_reducible rfl
  (try simp only [glA, glB, glC, Act.put, glD, glE, glF])
  refine wpAnyJ_take 6 (v := ?_) (by first | exact hF | exact wideFn) (hs3) rfl (by kernel_rfl) (by kernel_rfl) (by kernel_rfl) (by kernel_rfl) rfl ?_ (by first | exact fun _ _ _ h => h | exact fun _ _ _ h => hQ2 _ _ _ _ _ h) ?_
  rotate_left
  · intro W hSW
    simp only [glA, glB, glC]
    (try dsimp only at hSW)
    go_simp
    with_reducible rfl
  (try simp only [glA, glB, glC, Act.put, glD, glE, glF])
  refine wpAnyJ_take 7 (v := ?_) (by first | exact hF | exact wideFn) (hs3) rfl (by kernel_rfl) (by kernel_rfl) (by kernel_rfl) (by kernel_rfl) rfl ?_ (by first | exact fun _ _ _ h => h | exact fun _ _ _ h => hQ2 _ _ _ _ _ h) ?_
  rotate_left
  · intro W hSW
    simp only [glA, glB, glC]
    (try dsimp only at hSW)
    go_simp
    with_reducible rfl
  (try simp only [glA, glB, glC, Act.put, glD, glE, glF])
  refine wpAnyJ_take 8 (v := ?_) (by first | exact hF | exact wideFn) (hs3) rfl (by kernel_rfl) (by kernel_rfl) (by kernel_rfl) (by kernel_rfl) rfl ?_ (by first | exact fun _ _ _ h => h | exact fun _ _ _ h => hQ2 _ _ _ _ _ h) ?_
  rotate_left
  · intro W hSW
    simp only [glA, glB, glC]
    (try dsimp only at hSW)
    go_simp
    with_reducible rfl
  (try simp only [glA, glB, glC, Act.put, glD, glE, glF])
  refine wpAnyJ_take 9 (v := ?_) (by first | exact hF | exact wideFn) (hs3) rfl (by kernel_rfl) (by kernel_rfl) (by kernel_rfl) (by kernel_rfl) rfl ?_ (by first | exact fun _ _ _ h => h | exact fun _ _ _ h => hQ2 _ _ _ _ _ h) ?_
  rotate_left
  · intro W hSW
    simp only [glA, glB, glC]
    (try dsimp only at hSW)
    go_simp
    with_reducible rfl
  (try simp only [glA, glB, glC, Act.put, glD, glE, glF])
  refine wpAnyJ_take 10 (v := ?_) (by first | exact hF | exact wideFn) (hs3) rfl (by kernel_rfl) (by kernel_rfl) (by kernel_rfl) (by kernel_rfl) rfl ?_ (by first | exact fun _ _ _ h => h | exact fun _ _ _ h => hQ2 _ _ _ _ _ h) ?_
  rotate_left
  · intro W hSW
    simp only [glA, glB, glC]
    (try dsimp only at hSW)
    go_simp
    with_reducible rfl
  (try simp only [glA, glB, glC, Act.put, glD, glE, glF])
  refine wpAnyJ_take 11 (v := ?_) (by first | exact hF | exact wideFn) (hs3) rfl (by kernel_rfl) (by kernel_rfl) (by kernel_rfl) (by kernel_rfl) rfl ?_ (by first | exact fun _ _ _ h => h | exact fun _ _ _ h => hQ2 _ _ _ _ _ h) ?_
  rotate_left
  · intro W hSW
    simp only [glA, glB, glC]
    (try dsimp only at hSW)
    go_simp
    with_reducible rfl
  (try simp only [glA, glB, glC, Act.put, glD, glE, glF])
  refine wpAnyJ_take 12 (v := ?_) (by first | exact hF | exact wideFn) (hs3) rfl (by kernel_rfl) (by kernel_rfl) (by kernel_rfl) (by kernel_rfl) rfl ?_ (by first | exact fun _ _ _ h => h | exact fun _ _ _ h => hQ2 _ _ _ _ _ h) ?_
  rotate_left
  · intro W hSW
    simp only [glA, glB, glC]
    (try dsimp only at hSW)
    go_simp
    with_reducible rfl
  (try simp only [glA, glB, glC, Act.put, glD, glE, glF])
  refine wpAnyJ_take 13 (v := ?_) (by first | exact hF | exact wideFn) (hs3) rfl (by kernel_rfl) (by kernel_rfl) (by kernel_rfl) (by kernel_rfl) rfl ?_ (by first | exact fun _ _ _ h => h | exact fun _ _ _ h => hQ2 _ _ _ _ _ h) ?_
  rotate_left
  · intro W hSW
    simp only [glA, glB, glC]
    (try dsimp only at hSW)
    go_simp
    with_reducible rfl
  (try simp only [glA, glB, glC, Act.put, glD, glE, glF])
  refine wpAnyJ_take 14 (v := ?_) (by first | exact hF | exact wideFn) (hs3) rfl (by kernel_rfl) (by kernel_rfl) (by kernel_rfl) (by kernel_rfl) rfl ?_ (by first | exact fun _ _ _ h => h | exact fun _ _ _ h => hQ2 _ _ _ _ _ h) ?_
  rotate_left
  · intro W hSW
    simp only [glA, glB, glC]
    (try dsimp only at hSW)
    go_simp
    with_reducible rfl
  (try simp only [glA, glB, glC, Act.put, glD, glE, glF])
  refine wpAnyJ_take 15 (v := ?_) (by first | exact hF | exact wideFn) (hs3) rfl (by kernel_rfl) (by kernel_rfl) (by kernel_rfl) (by kernel_rfl) rfl ?_ (by first | exact fun _ _ _ h => h | exact fun _ _ _ h => hQ2 _ _ _ _ _ h) ?_
  rotate_left
  · intro W hSW
    simp only [glA, glB, glC]
    (try dsimp only at hSW)
    go_simp
    with_reducible rfl
  (try simp only [glA, glB, glC, Act.put, glD, glE, glF])
  refine wpAnyJ_done (by kernel_rfl) ?_
  have hs5 := hs3.2.2.1
  go_wp2_with fail
  refine (HT.out _ HBE.out).mono ?_
  rintro e w2 ⟨v2, rfl, hX2, hK2, hr2⟩
  have HX2 := hide hX2
  have E2 := hide ((HE1.out.ext HBE.out).kx hK2 HGX.out (fun e => by have := HOWN.out g e.symm; omega))
  have HNE : Hid (some g ≠ v2.ownBlock) := hide (fun e => by
    rcases hr2 with h | h
    · rw [h] at e
      have := HOWN.out g e.symm
      omega
    · have := h g e.symm
      have := HBE.out.size
      omega)
  have HK2 := hide (And.intro hK2 hr2)
  clear hX2 hK2 hr2 hs1 hs3 hs5
  obtain ⟨g0', g0, -⟩ := blk4 E2.out
  have k10 : (ki == 2) = false := by rw [beq_eq_false_iff_ne]; exact h2
  have k11 : (ki != 2) = true := by simp [h2]
  obtain ⟨A3, n3, c3, w3, hrun, hb3, hg3, hX3, hK3, hr3⟩ := (HX2.out.ext (Below.refl w2.heap.size w2).drew).push new (by have := HL2.out; omega)
  try dsimp only at hrun
  have E3 := ((E2.out.ext (Below.refl w2.heap.size w2).drew).alloc (.cells #[.string new] 9)).grown hg3 (fun e => HNE.out e)
  have HS7 : Hid (w2.drew.cell? ⟨X, 2, none⟩ = some v2 ∧ w2.drew.cell? ⟨g, 3, none⟩ = some (.string new)) := hide ⟨(blk3 (HX2.out.blk.drew)).2.2.2.1, (blk4 (E2.out.drew)).2.2.2.2⟩
  have HS8 : Hid ((w2.drew.alloc (.cells #[.string new] 9)).cell? ⟨X, 2, none⟩ = some v2 ∧ (w2.drew.alloc (.cells #[.string new] 9)).cell? ⟨g, 3, none⟩ = some (.string new)) := hide ⟨(blk3 (HX2.out.blk.drew.alloc _)).2.2.2.1, (blk4 (E2.out.drew.alloc _)).2.2.2.2⟩
  have HS9 : Hid (w3.cell? ⟨X, 2, none⟩ = some v2 ∧ w3.cell? ⟨g, 3, none⟩ = some (.string new)) := hide ⟨(blk3 hb3).2.2.2.1, (blk4 E3).2.2.2.2⟩
  have HRUN := hide hrun
  have HX3 := hide hX3
  have HK3 := hide (And.intro hK3 hr3)
  have lX := hb3.lt
  have fX := hb3.frozen 2
  have hgX : g ≠ X := HGX.out
  have E4 := hide (E3.far (p := ⟨X, 2, none⟩) hgX (.slice A3 n3 c3))
  clear hrun hX3 hK3 hr3 E3 hg3 hb3
  go_upto_region 7 with fail
  refine wp_region_K (pickS [4, 6] (fun W : World => W.cell? ⟨X, 2, none⟩ = some v2 ∧ W.cell? ⟨g, 3, none⟩ = some (.string new)) (fun _ => True)) (by kernel_rfl) ?_
  refine wpAnyK_take 0 (v := ?_) (by first | exact hF | exact wideFn) trivial rfl (by kernel_rfl) (by kernel_rfl) (by kernel_rfl) (by kernel_rfl) rfl ?_ (by first | exact fun _ _ _ h => h | exact fun _ _ _ h => hQ2 _ _ _ _ _ h) ?_
  rotate_left
  · intro W hSW
    replace hSW : True := hSW
    simp only [glA, glB, glC]
    (try dsimp only at hSW)
    go_simp
    with_reducible rfl
  (try simp only [glA, glB, glC, Act.put, glD, glE, glF])
  refine wpAnyK_take 1 (v := ?_) (by first | exact hF | exact wideFn) trivial rfl (by kernel_rfl) (by kernel_rfl) (by kernel_rfl) (by kernel_rfl) rfl ?_ (by first | exact fun _ _ _ h => h | exact fun _ _ _ h => hQ2 _ _ _ _ _ h) ?_
  rotate_left
  · intro W hSW
    replace hSW : True := hSW
    simp only [glA, glB, glC]
    (try dsimp only at hSW)
    go_simp
    with_reducible rfl
  (try simp only [glA, glB, glC, Act.put, glD, glE, glF])
  refine wpAnyK_take 2 (v := ?_) (by first | exact hF | exact wideFn) trivial rfl (by kernel_rfl) (by kernel_rfl) (by kernel_rfl) (by kernel_rfl) rfl ?_ (by first | exact fun _ _ _ h => h | exact fun _ _ _ h => hQ2 _ _ _ _ _ h) ?_
  rotate_left
  · intro W hSW
    replace hSW : True := hSW
    simp only [glA, glB, glC]
    (try dsimp only at hSW)
    go_simp
    with_reducible rfl
  (try simp only [glA, glB, glC, Act.put, glD, glE, glF])
  refine wpAnyK_take 3 (v := ?_) (by first | exact hF | exact wideFn) trivial rfl (by kernel_rfl) (by kernel_rfl) (by kernel_rfl) (by kernel_rfl) rfl ?_ (by first | exact fun _ _ _ h => h | exact fun _ _ _ h => hQ2 _ _ _ _ _ h) ?_
  rotate_left
  · intro W hSW
    replace hSW : True := hSW
    simp only [glA, glB, glC]
    (try dsimp only at hSW)
    go_simp
    with_reducible rfl
  (try simp only [glA, glB, glC, Act.put, glD, glE, glF])
  refine wpAnyK_take 4 (v := ?_) (by first | exact hF | exact wideFn) (And.intro HS7.out trivial) rfl (by kernel_rfl) (by kernel_rfl) (by kernel_rfl) (by kernel_rfl) rfl ?_ (by first | exact fun _ _ _ h => h | exact fun _ _ _ h => hQ2 _ _ _ _ _ h) ?_
  rotate_left
  · intro W hSW
    replace hSW : ((W.cell? ⟨X, 2, none⟩ = some v2 ∧ W.cell? ⟨g, 3, none⟩ = some (.string new)) ∧ True) := hSW
    simp only [glA, glB, glC]
    (try dsimp only at hSW)
    go_simp
    with_reducible rfl
  (try simp only [glA, glB, glC, Act.put, glD, glE, glF])
  refine wpAnyK_take 5 (v := ?_) (by first | exact hF | exact wideFn) trivial rfl (by kernel_rfl) (by kernel_rfl) (by kernel_rfl) (by kernel_rfl) rfl ?_ (by first | exact fun _ _ _ h => h | exact fun _ _ _ h => hQ2 _ _ _ _ _ h) ?_
  rotate_left
  · intro W hSW
    replace hSW : True := hSW
    simp only [glA, glB, glC]
    (try dsimp only at hSW)
    go_simp
    with_reducible rfl
  (try simp only [glA, glB, glC, Act.put, glD, glE, glF])
  refine wpAnyK_take 6 (v := ?_) (by first | exact hF | exact wideFn) (And.intro HS7.out trivial) rfl (by kernel_rfl) (by kernel_rfl) (by kernel_rfl) (by kernel_rfl) rfl ?_ (by first | exact fun _ _ _ h => h | exact fun _ _ _ h => hQ2 _ _ _ _ _ h) ?_
  rotate_left
  · intro W hSW
    replace hSW : ((W.cell? ⟨X, 2, none⟩ = some v2 ∧ W.cell? ⟨g, 3, none⟩ = some (.string new)) ∧ True) := hSW
    simp only [glA, glB, glC]
    (try dsimp only at hSW)
    go_simp
    with_reducible rfl
  (try simp only [glA, glB, glC, Act.put, glD, glE, glF])
  refine wpAnyK_one 7 rfl (by kernel_rfl) (fun K hK => ?_)
  simp only [glA, glB, glC]
  go_simp
  refine hK.out _ _ (.inr (pickS_all HS8.out trivial)) ?_
  clear hK K
  (try simp only [glA, glB, glC, Act.put, glD, glE, glF])
  refine wpAnyK_one 8 rfl (by kernel_rfl) (fun K hK => ?_)
  rw [if_pos (by rfl)]
  refine wpIn_append_run (.tmp 55) (.tmp 58) 22 (by first | exact hF | exact wideFn) rfl rfl rfl HRUN.out ?_
  refine hK.out _ _ (.inr (pickS_all HS9.out trivial)) ?_
  clear hK K
  (try simp only [glA, glB, glC, Act.put, glD, glE, glF])
  refine wpAnyK_take 9 (v := ?_) (by first | exact hF | exact wideFn) trivial rfl (by kernel_rfl) (by kernel_rfl) (by kernel_rfl) (by kernel_rfl) rfl ?_ (by first | exact fun _ _ _ h => h | exact fun _ _ _ h => hQ2 _ _ _ _ _ h) ?_
  rotate_left
  · intro W hSW
    replace hSW : True := hSW
    simp only [glA, glB, glC]
    (try dsimp only at hSW)
    go_simp
    with_reducible rfl
  (try simp only [glA, glB, glC, Act.put, glD, glE, glF])
  refine wpAnyK_take 10 (v := ?_) (by first | exact hF | exact wideFn) trivial rfl (by kernel_rfl) (by kernel_rfl) (by kernel_rfl) (by kernel_rfl) rfl ?_ (by first | exact fun _ _ _ h => h | exact fun _ _ _ h => hQ2 _ _ _ _ _ h) ?_
  rotate_left
  · intro W hSW
    replace hSW : True := hSW
    simp only [glA, glB, glC]
    (try dsimp only at hSW)
    go_simp
    with_reducible rfl
  (try simp only [glA, glB, glC, Act.put, glD, glE, glF])
  have cX := HS9.out.1
  refine wpAnyK_one 11 rfl (by kernel_rfl) (fun K hK => ?_)
  simp only [glA, glB, glC]
  go_simp
  refine hK.out _ _ (.inr (pickS_need (by kernel_rfl) trivial)) ?_
  clear hK K
  (try simp only [glA, glB, glC, Act.put, glD, glE, glF])
  refine wpAnyK_done (by kernel_rfl) ?_
  clear cX lX fX
  generalize (w3.setCell ⟨X, 2, none⟩ (.slice A3 n3 c3)) = w4 at HX3 HK3 E4 ⊢
  obtain ⟨g0, g1, -⟩ := blk4 E4.out
  obtain ⟨x0, x1, x2, x3, x4, x5, x6⟩ := blk3 HX3.out.blk
  go_wp2_with fail
  go_ret
  have hWe : Below W.heap.size W we := HB0.out.trans (HBE.out.mono HB0.out.size)
  have q1 := KX.both (v := v) (v2 := v) (v3 := v2) (KX.of_below X _ hWe) (.inl rfl) HK2.out.1 HK2.out.2
  have q2 : KX w2 w4 X v2.ownBlock := (KX.of_below X v2.ownBlock (Below.refl w2.heap.size w2).drew).trans HK3.out.1 (.inl rfl)
  have q3 := KX.both (v := v) (v2 := v2) (v3 := .slice A3 n3 c3) q1.1 q1.2 q2 HK3.out.2
  rw [hg] at q3
  exact ⟨_, rfl, HX3.out.move (t + 1), q3.1.set 1 _, q3.2⟩
theorem edit_drop (w W : World) (X : Nat) (A : Option Addr) (c : Nat) (a : List Wd) (i : Nat) (v : Value) (l : List Wd) (ki : Int) (t : Nat) (old new : Wd) (hX : EX w W X A c a i v l) (hA : SR w w.heap.size A a) (hit : i ≤ t) (hta : t < a.length) (h3 : ki ≠ 3) (ho : a.getD t noW = old) (h2 : ki = 2) (hac : a.length ≤ c) (hc : c ≤ maxLen) (hl : l.length + t ≤ 100000) :
    Calls Tryd.prog 56 #[.pointer (some ⟨X, 0, none⟩), .agg #[.int .i64 ki, .int .i64 (t : Nat), .string old, .string new]] W (EdPost w W X A c a (t + 1) v (takeL a i t l)) := by
  have HB0 := hide ((Below.refl W.heap.size W).alloc (Nat.le_refl _) (.cells #[.int .i64 ki, .int .i64 (t : Nat), .string old, .string new] 86))
  have E1 := Blk.new W 86 #[.int .i64 ki, .int .i64 (t : Nat), .string old, .string new]
  have X1 := hX.ext HB0.out
  have hown := World.ownsRow.lt hX.own
  obtain ⟨n, hn⟩ : ∃ n, a.length = n := ⟨_, rfl⟩
  obtain ⟨g, hg⟩ : ∃ g, W.heap.size = g := ⟨_, rfl⟩
  obtain ⟨b, off, hAA, hb, hx⟩ := VR1.at_ hA hta
  rw [ho] at hx
  have hx1 := (hX.below.cell (p := ⟨b, off + t, none⟩) hb).trans hx
  have hb1 : b < W.heap.size := by have := hX.below.size; omega
  have hx2 := (HB0.out.cell (p := ⟨b, off + t, none⟩) hb1).trans hx1
  have hb2 : b < (W.alloc (.cells #[.int .i64 ki, .int .i64 (t : Nat), .string old, .string new] 86)).heap.size := by have := HB0.out.size; omega
  subst hAA
  rw [hg] at E1 hown
  obtain ⟨w1, hw1⟩ : ∃ w1, W.alloc (.cells #[.int .i64 ki, .int .i64 (t : Nat), .string old, .string new] 86) = w1 := ⟨_, rfl⟩
  rw [hw1] at E1 X1 HB0 hx2 hb2
  have HS1 : Hid (∀ V, Below w1.heap.size w1 V → V.cell? ⟨X, 0, none⟩ = some (.slice (some ⟨b, off, none⟩) n c) ∧ V.cell? ⟨g, 0, none⟩ = some (.int .i64 ki) ∧ V.cell? ⟨g, 1, none⟩ = some (.int .i64 (t : Nat)) ∧ V.cell? ⟨g, 2, none⟩ = some (.string old) ∧ V.cell? ⟨g, 3, none⟩ = some (.string new) ∧ V.cell? ⟨b, off + t, none⟩ = some (.string old)) := hide (fun V h => by
    have h2 := X1.blk.ext h
    rw [hn] at h2
    obtain ⟨e1, e2, e3, e4⟩ := (blk4 (E1.ext h)).2
    exact ⟨(blk3 h2).2.1, e1, e2, e3, e4, (h.cell (p := ⟨b, off + t, none⟩) hb2).trans hx2⟩)
  have HGX : Hid (g ≠ X) := hide (E1.ne_ X1.blk (by decide))
  have HT : Hid (∀ V, Below w1.heap.size w1 V → Calls Tryd.prog 57 #[.pointer (some ⟨X, 0, none⟩), .int .i64 t] V fun e w' => ∃ v', e = .returned (.tuple #[]) ∧ EX w w' X (some ⟨b, off, none⟩) c a t v' (takeL a i t l) ∧ KX V w' X v.ownBlock ∧ (v'.ownBlock = v.ownBlock ∨ ∀ k, v'.ownBlock = some k → V.heap.size ≤ k)) := hide (fun V h => take_any w V X (some ⟨b, off, none⟩) c a i t v l (X1.ext h) hA hit (by omega) hac hc (by omega))
  have HL2 : Hid ((takeL a i t l).length ≤ 1000000 - 1) := hide (by unfold takeL; rw [List.length_append, List.length_take]; omega)
  have HE1 := hide E1
  have HOWN := hide hown
  have hgs : g < w1.heap.size := E1.lt
  rw [hn] at hta hac
  unfold maxLen at hc
  unfold EdPost
  clear E1 X1 hX hA hown hx hx1 hx2 hb hb1 hb2 ho
  have k1 : ¬ (n : Int) < (t : Int) := by omega
  have k2 : ((t : Int) == (n : Int)) = false := by rw [beq_eq_false_iff_ne]; omega
  have k3 : (t == n) = false := by rw [beq_eq_false_iff_ne]; omega
  have k4 : (0 : Int) ≤ (t : Int) := by omega
  have k5 : (t : Int) < (n : Int) := by omega
  have k6 : ¬ t = n := by omega
  have k7 : (ki == 3) = false := by rw [beq_eq_false_iff_ne]; exact h3
  have k8 : (ki != 3) = true := by simp [h3]
  have k9 : IntKind.i64.wrap ((t : Int) + 1) = ((t + 1 : Nat) : Int) := by rw [IntWalk.i64_in _ (by omega)]; omega
  have k10 : (ki == 2) = true := by rw [h2]; rfl
  have k11 : (ki != 2) = false := by rw [h2]; rfl
  clear h2 h3
  rw [hg]
  go_enter Tryd.func56, Tryd.ntmps56
  go_upto_region 1 with fail
  have HBD := hide ((Below.refl w1.heap.size w1).drew)
  refine wp_region_J (fun W : World => W.cell? ⟨X, 0, none⟩ = some (.slice (some ⟨b, off, none⟩) n c) ∧ W.cell? ⟨g, 0, none⟩ = some (.int .i64 ki) ∧ W.cell? ⟨g, 1, none⟩ = some (.int .i64 (t : Nat)) ∧ W.cell? ⟨g, 2, none⟩ = some (.string old) ∧ W.cell? ⟨g, 3, none⟩ = some (.string new) ∧ W.cell? ⟨b, off + t, none⟩ = some (.string old)) (by kernel_rfl) ?_
  generalize w1.drew = wd at HBD ⊢
  have hs1 := HS1.out _ HBD.out
  refine wpAnyJ_take 0 (v := ?_) (by first | exact hF | exact wideFn) (hs1) rfl (by kernel_rfl) (by kernel_rfl) (by kernel_rfl) (by kernel_rfl) rfl ?_ (by first | exact fun _ _ _ h => h | exact fun _ _ _ h => hQ2 _ _ _ _ _ h) ?_
  rotate_left
  · intro W hSW
    simp only [glA, glB, glC]
    (try dsimp only at hSW)
    go_simp
    with_reducible rfl
  (try simp only [glA, glB, glC, Act.put, glD, glE, glF])
  refine wpAnyJ_take 1 (v := ?_) (by first | exact hF | exact wideFn) (hs1) rfl (by kernel_rfl) (by kernel_rfl) (by kernel_rfl) (by kernel_rfl) rfl ?_ (by first | exact fun _ _ _ h => h | exact fun _ _ _ h => hQ2 _ _ _ _ _ h) ?_
  rotate_left
  · intro W hSW
    simp only [glA, glB, glC]
    (try dsimp only at hSW)
    go_simp
    with_reducible rfl
  (try simp only [glA, glB, glC, Act.put, glD, glE, glF])
  refine wpAnyJ_take 2 (v := ?_) (by first | exact hF | exact wideFn) (hs1) rfl (by kernel_rfl) (by kernel_rfl) (by kernel_rfl) (by kernel_rfl) rfl ?_ (by first | exact fun _ _ _ h => h | exact fun _ _ _ h => hQ2 _ _ _ _ _ h) ?_
  rotate_left
  · intro W hSW
    simp only [glA, glB, glC]
    (try dsimp only at hSW)
    go_simp
    with_reducible rfl
  (try simp only [glA, glB, glC, Act.put, glD, glE, glF])
  refine wpAnyJ_take 3 (v := ?_) (by first | exact hF | exact wideFn) (hs1) rfl (by kernel_rfl) (by kernel_rfl) (by kernel_rfl) (by kernel_rfl) rfl ?_ (by first | exact fun _ _ _ h => h | exact fun _ _ _ h => hQ2 _ _ _ _ _ h) ?_
  rotate_left
  · intro W hSW
    simp only [glA, glB, glC]
    (try dsimp only at hSW)
    go_simp
    with_reducible rfl
  (try simp only [glA, glB, glC, Act.put, glD, glE, glF])
  refine wpAnyJ_take 4 (v := ?_) (by first | exact hF | exact wideFn) (hs1) rfl (by kernel_rfl) (by kernel_rfl) (by kernel_rfl) (by kernel_rfl) rfl ?_ (by first | exact fun _ _ _ h => h | exact fun _ _ _ h => hQ2 _ _ _ _ _ h) ?_
  rotate_left
  · intro W hSW
    simp only [glA, glB, glC]
    (try dsimp only at hSW)
    go_simp
    with_reducible rfl
  (try simp only [glA, glB, glC, Act.put, glD, glE, glF])
  refine wpAnyJ_take 5 (v := ?_) (by first | exact hF | exact wideFn) (hs1) rfl (by kernel_rfl) (by kernel_rfl) (by kernel_rfl) (by kernel_rfl) rfl ?_ (by first | exact fun _ _ _ h => h | exact fun _ _ _ h => hQ2 _ _ _ _ _ h) ?_
  rotate_left
  · intro W hSW
    simp only [glA, glB, glC]
    (try dsimp only at hSW)
    go_simp
    with_reducible rfl
  (try simp only [glA, glB, glC, Act.put, glD, glE, glF])
  refine wpAnyJ_take 6 (v := ?_) (by first | exact hF | exact wideFn) (hs1) rfl (by kernel_rfl) (by kernel_rfl) (by kernel_rfl) (by kernel_rfl) rfl ?_ (by first | exact fun _ _ _ h => h | exact fun _ _ _ h => hQ2 _ _ _ _ _ h) ?_
  rotate_left
  · intro W hSW
    simp only [glA, glB, glC]
    (try dsimp only at hSW)
    go_simp
    with_reducible rfl
  (try simp only [glA, glB, glC, Act.put, glD, glE, glF])
  refine wpAnyJ_take 7 (v := ?_) (by first | exact hF | exact wideFn) (hs1) rfl (by kernel_rfl) (by kernel_rfl) (by kernel_rfl) (by kernel_rfl) rfl ?_ (by first | exact fun _ _ _ h => h | exact fun _ _ _ h => hQ2 _ _ _ _ _ h) ?_
  rotate_left
  · intro W hSW
    simp only [glA, glB, glC]
    (try dsimp only at hSW)
    go_simp
    with_reducible rfl
  (try simp only [glA, glB, glC, Act.put, glD, glE, glF])
  refine wpAnyJ_take 8 (v := ?_) (by first | exact hF | exact wideFn) (hs1) rfl (by kernel_rfl) (by kernel_rfl) (by kernel_rfl) (by kernel_rfl) rfl ?_ (by first | exact fun _ _ _ h => h | exact fun _ _ _ h => hQ2 _ _ _ _ _ h) ?_
  rotate_left
  · intro W hSW
    simp only [glA, glB, glC]
    (try dsimp only at hSW)
    go_simp
    with_reducible rfl
  (try simp only [glA, glB, glC, Act.put, glD, glE, glF])
  refine wpAnyJ_take 9 (v := ?_) (by first | exact hF | exact wideFn) (hs1) rfl (by kernel_rfl) (by kernel_rfl) (by kernel_rfl) (by kernel_rfl) rfl ?_ (by first | exact fun _ _ _ h => h | exact fun _ _ _ h => hQ2 _ _ _ _ _ h) ?_
  rotate_left
  · intro W hSW
    simp only [glA, glB, glC]
    (try dsimp only at hSW)
    go_simp
    with_reducible rfl
  (try simp only [glA, glB, glC, Act.put, glD, glE, glF])
  refine wpAnyJ_take 10 (v := ?_) (by first | exact hF | exact wideFn) (hs1) rfl (by kernel_rfl) (by kernel_rfl) (by kernel_rfl) (by kernel_rfl) rfl ?_ (by first | exact fun _ _ _ h => h | exact fun _ _ _ h => hQ2 _ _ _ _ _ h) ?_
  rotate_left
  · intro W hSW
    simp only [glA, glB, glC]
    (try dsimp only at hSW)
    go_simp
    with_reducible rfl
  (try simp only [glA, glB, glC, Act.put, glD, glE, glF])
  refine wpAnyJ_take 11 (v := ?_) (by first | exact hF | exact wideFn) (hs1) rfl (by kernel_rfl) (by kernel_rfl) (by kernel_rfl) (by kernel_rfl) rfl ?_ (by first | exact fun _ _ _ h => h | exact fun _ _ _ h => hQ2 _ _ _ _ _ h) ?_
  rotate_left
  · intro W hSW
    simp only [glA, glB, glC]
    (try dsimp only at hSW)
    go_simp
    with_reducible rfl
  (try simp only [glA, glB, glC, Act.put, glD, glE, glF])
  refine wpAnyJ_take 12 (v := ?_) (by first | exact hF | exact wideFn) (hs1) rfl (by kernel_rfl) (by kernel_rfl) (by kernel_rfl) (by kernel_rfl) rfl ?_ (by first | exact fun _ _ _ h => h | exact fun _ _ _ h => hQ2 _ _ _ _ _ h) ?_
  rotate_left
  · intro W hSW
    simp only [glA, glB, glC]
    (try dsimp only at hSW)
    go_simp
    with_reducible rfl
  (try simp only [glA, glB, glC, Act.put, glD, glE, glF])
  refine wpAnyJ_take 13 (v := ?_) (by first | exact hF | exact wideFn) (hs1) rfl (by kernel_rfl) (by kernel_rfl) (by kernel_rfl) (by kernel_rfl) rfl ?_ (by first | exact fun _ _ _ h => h | exact fun _ _ _ h => hQ2 _ _ _ _ _ h) ?_
  rotate_left
  · intro W hSW
    simp only [glA, glB, glC]
    (try dsimp only at hSW)
    go_simp
    with_reducible rfl
  (try simp only [glA, glB, glC, Act.put, glD, glE, glF])
  refine wpAnyJ_take 14 (v := ?_) (by first | exact hF | exact wideFn) (hs1) rfl (by kernel_rfl) (by kernel_rfl) (by kernel_rfl) (by kernel_rfl) rfl ?_ (by first | exact fun _ _ _ h => h | exact fun _ _ _ h => hQ2 _ _ _ _ _ h) ?_
  rotate_left
  · intro W hSW
    simp only [glA, glB, glC]
    (try dsimp only at hSW)
    go_simp
    with_reducible rfl
  (try simp only [glA, glB, glC, Act.put, glD, glE, glF])
  refine wpAnyJ_take 15 (v := ?_) (by first | exact hF | exact wideFn) (hs1) rfl (by kernel_rfl) (by kernel_rfl) (by kernel_rfl) (by kernel_rfl) rfl ?_ (by first | exact fun _ _ _ h => h | exact fun _ _ _ h => hQ2 _ _ _ _ _ h) ?_
  rotate_left
  · intro W hSW
    simp only [glA, glB, glC]
    (try dsimp only at hSW)
    go_simp
    with_reducible rfl
  (try simp only [glA, glB, glC, Act.put, glD, glE, glF])
  refine wpAnyJ_take 16 (v := ?_) (by first | exact hF | exact wideFn) (hs1) rfl (by kernel_rfl) (by kernel_rfl) (by kernel_rfl) (by kernel_rfl) rfl ?_ (by first | exact fun _ _ _ h => h | exact fun _ _ _ h => hQ2 _ _ _ _ _ h) ?_
  rotate_left
  · intro W hSW
    simp only [glA, glB, glC]
    (try dsimp only at hSW)
    go_simp
    with_reducible rfl
  (try simp only [glA, glB, glC, Act.put, glD, glE, glF])
  refine wpAnyJ_take 17 (v := ?_) (by first | exact hF | exact wideFn) (hs1) rfl (by kernel_rfl) (by kernel_rfl) (by kernel_rfl) (by kernel_rfl) rfl ?_ (by first | exact fun _ _ _ h => h | exact fun _ _ _ h => hQ2 _ _ _ _ _ h) ?_
  rotate_left
  · intro W hSW
    simp only [glA, glB, glC]
    (try dsimp only at hSW)
    go_simp
    with_reducible rfl
  (try simp only [glA, glB, glC, Act.put, glD, glE, glF])
  refine wpAnyJ_skip 18 (by first | exact hF | exact wideFn) (hs1) rfl (by kernel_rfl) (by kernel_rfl) (by kernel_rfl) (by kernel_rfl) rfl (by first | exact fun _ _ _ h => h | exact fun _ _ _ h => hQ2 _ _ _ _ _ h) ?_
  (try simp only [glA, glB, glC, Act.put, glD, glE, glF])
  refine wpAnyJ_skip 19 (by first | exact hF | exact wideFn) (hs1) rfl (by kernel_rfl) (by kernel_rfl) (by kernel_rfl) (by kernel_rfl) rfl (by first | exact fun _ _ _ h => h | exact fun _ _ _ h => hQ2 _ _ _ _ _ h) ?_
  (try simp only [glA, glB, glC, Act.put, glD, glE, glF])
  refine wpAnyJ_skip 20 (by first | exact hF | exact wideFn) (hs1) rfl (by kernel_rfl) (by kernel_rfl) (by kernel_rfl) (by kernel_rfl) rfl (by first | exact fun _ _ _ h => h | exact fun _ _ _ h => hQ2 _ _ _ _ _ h) ?_
  (try simp only [glA, glB, glC, Act.put, glD, glE, glF])
  refine wpAnyJ_take 21 (v := ?_) (by first | exact hF | exact wideFn) (hs1) rfl (by kernel_rfl) (by kernel_rfl) (by kernel_rfl) (by kernel_rfl) rfl ?_ (by first | exact fun _ _ _ h => h | exact fun _ _ _ h => hQ2 _ _ _ _ _ h) ?_
  rotate_left
  · intro W hSW
    simp only [glA, glB, glC]
    (try dsimp only at hSW)
    go_simp
    with_reducible rfl
  (try simp only [glA, glB, glC, Act.put, glD, glE, glF])
  refine wpAnyJ_take 22 (v := ?_) (by first | exact hF | exact wideFn) (hs1) rfl (by kernel_rfl) (by kernel_rfl) (by kernel_rfl) (by kernel_rfl) rfl ?_ (by first | exact fun _ _ _ h => h | exact fun _ _ _ h => hQ2 _ _ _ _ _ h) ?_
  rotate_left
  · intro W hSW
    simp only [glA, glB, glC]
    (try dsimp only at hSW)
    go_simp
    with_reducible rfl
  (try simp only [glA, glB, glC, Act.put, glD, glE, glF])
  refine wpAnyJ_done (by kernel_rfl) ?_
  go_upto_region 3 with fail
  have HBE := hide (HBD.out.trans ((Below.refl wd.heap.size wd).drew.mono HBD.out.size))
  refine wp_region_J (fun W : World => W.cell? ⟨X, 0, none⟩ = some (.slice (some ⟨b, off, none⟩) n c) ∧ W.cell? ⟨g, 0, none⟩ = some (.int .i64 ki) ∧ W.cell? ⟨g, 1, none⟩ = some (.int .i64 (t : Nat)) ∧ W.cell? ⟨g, 2, none⟩ = some (.string old) ∧ W.cell? ⟨g, 3, none⟩ = some (.string new) ∧ W.cell? ⟨b, off + t, none⟩ = some (.string old)) (by kernel_rfl) ?_
  generalize wd.drew = we at HBE ⊢
  have hs3 := HS1.out _ HBE.out
  refine wpAnyJ_take 0 (v := ?_) (by first | exact hF | exact wideFn) (hs3) rfl (by kernel_rfl) (by kernel_rfl) (by kernel_rfl) (by kernel_rfl) rfl ?_ (by first | exact fun _ _ _ h => h | exact fun _ _ _ h => hQ2 _ _ _ _ _ h) ?_
  rotate_left
  · intro W hSW
    simp only [glA, glB, glC]
    (try dsimp only at hSW)
    go_simp
    with_reducible rfl
  (try simp only [glA, glB, glC, Act.put, glD, glE, glF])
  refine wpAnyJ_take 1 (v := ?_) (by first | exact hF | exact wideFn) (hs3) rfl (by kernel_rfl) (by kernel_rfl) (by kernel_rfl) (by kernel_rfl) rfl ?_ (by first | exact fun _ _ _ h => h | exact fun _ _ _ h => hQ2 _ _ _ _ _ h) ?_
  rotate_left
  · intro W hSW
    simp only [glA, glB, glC]
    (try dsimp only at hSW)
    go_simp
    with_reducible rfl
  (try simp only [glA, glB, glC, Act.put, glD, glE, glF])
  refine wpAnyJ_take 2 (v := ?_) (by first | exact hF | exact wideFn) (hs3) rfl (by kernel_rfl) (by kernel_rfl) (by kernel_rfl) (by kernel_rfl) rfl ?_ (by first | exact fun _ _ _ h => h | exact fun _ _ _ h => hQ2 _ _ _ _ _ h) ?_
  rotate_left
  · intro W hSW
    simp only [glA, glB, glC]
    (try dsimp only at hSW)
    go_simp
    with_reducible rfl
  (try simp only [glA, glB, glC, Act.put, glD, glE, glF])
  refine wpAnyJ_take 3 (v := ?_) (by first | exact hF | exact wideFn) (hs3) rfl (by kernel_rfl) (by kernel_rfl) (by kernel_rfl) (by kernel_rfl) rfl ?_ (by first | exact fun _ _ _ h => h | exact fun _ _ _ h => hQ2 _ _ _ _ _ h) ?_
  rotate_left
  · intro W hSW
    simp only [glA, glB, glC]
    (try dsimp only at hSW)
    go_simp
    with_reducible rfl
  (try simp only [glA, glB, glC, Act.put, glD, glE, glF])
  refine wpAnyJ_take 4 (v := ?_) (by first | exact hF | exact wideFn) (hs3) rfl (by kernel_rfl) (by kernel_rfl) (by kernel_rfl) (by kernel_rfl) rfl ?_ (by first | exact fun _ _ _ h => h | exact fun _ _ _ h => hQ2 _ _ _ _ _ h) ?_
  rotate_left
  · intro W hSW
    simp only [glA, glB, glC]
    (try dsimp only at hSW)
    go_simp
    with_reducible rfl
  (try simp only [glA, glB, glC, Act.put, glD, glE, glF])
  refine wpAnyJ_take 5 (v := ?_) (by first | exact hF | exact wideFn) (hs3) rfl (by kernel_rfl) (by kernel_rfl) (by kernel_rfl) (by kernel_rfl) rfl ?_ (by first | exact fun _ _ _ h => h | exact fun _ _ _ h => hQ2 _ _ _ _ _ h) ?_
  rotate_left
  · intro W hSW
    simp only [glA, glB, glC]
    (try dsimp only at hSW)
    go_simp
    with_reducible rfl
  (try simp only [glA, glB, glC, Act.put, glD, glE, glF])
  refine wpAnyJ_take 6 (v := ?_) (by first | exact hF | exact wideFn) (hs3) rfl (by kernel_rfl) (by kernel_rfl) (by kernel_rfl) (by kernel_rfl) rfl ?_ (by first | exact fun _ _ _ h => h | exact fun _ _ _ h => hQ2 _ _ _ _ _ h) ?_
  rotate_left
  · intro W hSW
    simp only [glA, glB, glC]
    (try dsimp only at hSW)
    go_simp
    with_reducible rfl
  (try simp only [glA, glB, glC, Act.put, glD, glE, glF])
  refine wpAnyJ_take 7 (v := ?_) (by first | exact hF | exact wideFn) (hs3) rfl (by kernel_rfl) (by kernel_rfl) (by kernel_rfl) (by kernel_rfl) rfl ?_ (by first | exact fun _ _ _ h => h | exact fun _ _ _ h => hQ2 _ _ _ _ _ h) ?_
  rotate_left
  · intro W hSW
    simp only [glA, glB, glC]
    (try dsimp only at hSW)
    go_simp
    with_reducible rfl
  (try simp only [glA, glB, glC, Act.put, glD, glE, glF])
  refine wpAnyJ_take 8 (v := ?_) (by first | exact hF | exact wideFn) (hs3) rfl (by kernel_rfl) (by kernel_rfl) (by kernel_rfl) (by kernel_rfl) rfl ?_ (by first | exact fun _ _ _ h => h | exact fun _ _ _ h => hQ2 _ _ _ _ _ h) ?_
  rotate_left
  · intro W hSW
    simp only [glA, glB, glC]
    (try dsimp only at hSW)
    go_simp
    with_reducible rfl
  (try simp only [glA, glB, glC, Act.put, glD, glE, glF])
  refine wpAnyJ_take 9 (v := ?_) (by first | exact hF | exact wideFn) (hs3) rfl (by kernel_rfl) (by kernel_rfl) (by kernel_rfl) (by kernel_rfl) rfl ?_ (by first | exact fun _ _ _ h => h | exact fun _ _ _ h => hQ2 _ _ _ _ _ h) ?_
  rotate_left
  · intro W hSW
    simp only [glA, glB, glC]
    (try dsimp only at hSW)
    go_simp
    with_reducible rfl
  (try simp only [glA, glB, glC, Act.put, glD, glE, glF])
  refine wpAnyJ_take 10 (v := ?_) (by first | exact hF | exact wideFn) (hs3) rfl (by kernel_rfl) (by kernel_rfl) (by kernel_rfl) (by kernel_rfl) rfl ?_ (by first | exact fun _ _ _ h => h | exact fun _ _ _ h => hQ2 _ _ _ _ _ h) ?_
  rotate_left
  · intro W hSW
    simp only [glA, glB, glC]
    (try dsimp only at hSW)
    go_simp
    with_reducible rfl
  (try simp only [glA, glB, glC, Act.put, glD, glE, glF])
  refine wpAnyJ_take 11 (v := ?_) (by first | exact hF | exact wideFn) (hs3) rfl (by kernel_rfl) (by kernel_rfl) (by kernel_rfl) (by kernel_rfl) rfl ?_ (by first | exact fun _ _ _ h => h | exact fun _ _ _ h => hQ2 _ _ _ _ _ h) ?_
  rotate_left
  · intro W hSW
    simp only [glA, glB, glC]
    (try dsimp only at hSW)
    go_simp
    with_reducible rfl
  (try simp only [glA, glB, glC, Act.put, glD, glE, glF])
  refine wpAnyJ_take 12 (v := ?_) (by first | exact hF | exact wideFn) (hs3) rfl (by kernel_rfl) (by kernel_rfl) (by kernel_rfl) (by kernel_rfl) rfl ?_ (by first | exact fun _ _ _ h => h | exact fun _ _ _ h => hQ2 _ _ _ _ _ h) ?_
  rotate_left
  · intro W hSW
    simp only [glA, glB, glC]
    (try dsimp only at hSW)
    go_simp
    with_reducible rfl
  (try simp only [glA, glB, glC, Act.put, glD, glE, glF])
  refine wpAnyJ_take 13 (v := ?_) (by first | exact hF | exact wideFn) (hs3) rfl (by kernel_rfl) (by kernel_rfl) (by kernel_rfl) (by kernel_rfl) rfl ?_ (by first | exact fun _ _ _ h => h | exact fun _ _ _ h => hQ2 _ _ _ _ _ h) ?_
  rotate_left
  · intro W hSW
    simp only [glA, glB, glC]
    (try dsimp only at hSW)
    go_simp
    with_reducible rfl
  (try simp only [glA, glB, glC, Act.put, glD, glE, glF])
  refine wpAnyJ_take 14 (v := ?_) (by first | exact hF | exact wideFn) (hs3) rfl (by kernel_rfl) (by kernel_rfl) (by kernel_rfl) (by kernel_rfl) rfl ?_ (by first | exact fun _ _ _ h => h | exact fun _ _ _ h => hQ2 _ _ _ _ _ h) ?_
  rotate_left
  · intro W hSW
    simp only [glA, glB, glC]
    (try dsimp only at hSW)
    go_simp
    with_reducible rfl
  (try simp only [glA, glB, glC, Act.put, glD, glE, glF])
  refine wpAnyJ_take 15 (v := ?_) (by first | exact hF | exact wideFn) (hs3) rfl (by kernel_rfl) (by kernel_rfl) (by kernel_rfl) (by kernel_rfl) rfl ?_ (by first | exact fun _ _ _ h => h | exact fun _ _ _ h => hQ2 _ _ _ _ _ h) ?_
  rotate_left
  · intro W hSW
    simp only [glA, glB, glC]
    (try dsimp only at hSW)
    go_simp
    with_reducible rfl
  (try simp only [glA, glB, glC, Act.put, glD, glE, glF])
  refine wpAnyJ_done (by kernel_rfl) ?_
  have hs5 := hs3.2.2.1
  go_wp2_with fail
  refine (HT.out _ HBE.out).mono ?_
  rintro e w2 ⟨v2, rfl, hX2, hK2, hr2⟩
  have HX2 := hide hX2
  have E2 := hide ((HE1.out.ext HBE.out).kx hK2 HGX.out (fun e => by have := HOWN.out g e.symm; omega))
  have HNE : Hid (some g ≠ v2.ownBlock) := hide (fun e => by
    rcases hr2 with h | h
    · rw [h] at e
      have := HOWN.out g e.symm
      omega
    · have := h g e.symm
      have := HBE.out.size
      omega)
  have HK2 := hide (And.intro hK2 hr2)
  clear hX2 hK2 hr2 hs1 hs3 hs5
  obtain ⟨g0', g0, -⟩ := blk4 E2.out
  obtain ⟨x0, x1, x2, x3, x4, x5, x6⟩ := blk3 HX2.out.blk
  go_wp2_with fail
  go_ret
  have hWe : Below W.heap.size W we := HB0.out.trans (HBE.out.mono HB0.out.size)
  have q1 := KX.both (v := v) (v2 := v) (v3 := v2) (KX.of_below X _ hWe) (.inl rfl) HK2.out.1 HK2.out.2
  rw [hg] at q1
  exact ⟨_, rfl, HX2.out.move (t + 1), q1.1.set 1 _, q1.2⟩
end Go.Proofs.YtmpegkojencbjaaDoor
/- School, plain: the edits of two texts are in order, and fit. -/
namespace Go.Proofs.YtmpegkojencbjaaDoor
open Go Go.RowKit Go.Shelf
/-- an edit that fits the words a from word i on -/
def EdFit (a : List Wd) (i : Nat) (e : Ed) : Prop :=
  (i : Int) ≤ e.at_ ∧ e.at_ ≤ ((i + a.length : Nat) : Int) ∧ (e.ki = 3 ∨ ((e.ki = 1 ∨ e.ki = 2) ∧ e.at_ < ((i + a.length : Nat) : Int) ∧ a.getD (e.at_.toNat - i) noW = e.old))
theorem EdFit.next {x : Wd} {a : List Wd} {i : Nat} {e : Ed} (h : EdFit a (i + 1) e) : EdFit (x :: a) i e := by
  obtain ⟨h1, h2, h3⟩ := h
  refine ⟨by omega, by simp only [List.length_cons]; omega, h3.imp id (fun ⟨h4, h5, h6⟩ => ⟨h4, by simp only [List.length_cons]; omega, ?_⟩)⟩
  rw [← h6, show e.at_.toNat - i = (e.at_.toNat - (i + 1)) + 1 by omega]
  rfl
theorem fit_here (x : Wd) (a : List Wd) (i : Nat) (k : Int) (hk : k = 1 ∨ k = 2) (new : Wd) : EdFit (x :: a) i ⟨k, i, x, new⟩ := by
  refine ⟨Int.le_refl _, by simp only [List.length_cons]; omega, .inr ⟨hk, by simp only [List.length_cons]; omega, ?_⟩⟩
  show (x :: a).getD ((i : Int).toNat - i) noW = x
  rw [show (i : Int).toNat - i = 0 by omega]; rfl
theorem alL_fit : ∀ (a : List Wd) (i : Nat) (b : List Wd), ∀ e ∈ alL a i b, EdFit a i e
  | [], i, b => fun e he => by
    rw [alL_nil] at he
    obtain ⟨y, -, rfl⟩ := List.mem_map.1 he
    exact ⟨Int.le_refl _, by simp, .inl rfl⟩
  | x :: a, i, [] => fun e he => by
    rw [alL_end] at he
    rcases List.mem_cons.1 he with rfl | h
    · exact fit_here x a i 2 (.inr rfl) _
    · exact (alL_fit a (i + 1) [] e h).next
  | x :: a, i, y :: b => fun e he => by
    rw [alL_cons] at he
    by_cases e0 : x = y
    · rw [if_pos e0] at he; exact (alL_fit a (i + 1) b e he).next
    · rw [if_neg e0] at he
      by_cases e1 : dsL (x :: a) (y :: b) = 1 + dsL a b
      · rw [if_pos e1] at he
        rcases List.mem_cons.1 he with rfl | h
        · exact fit_here x a i 1 (.inl rfl) _
        · exact (alL_fit a (i + 1) b e h).next
      · rw [if_neg e1] at he
        by_cases e2 : dsL (x :: a) (y :: b) = 1 + dsL a (y :: b)
        · rw [if_pos e2] at he
          rcases List.mem_cons.1 he with rfl | h
          · exact fit_here x a i 2 (.inr rfl) _
          · exact (alL_fit a (i + 1) (y :: b) e h).next
        · rw [if_neg e2] at he
          rcases List.mem_cons.1 he with rfl | h
          · exact ⟨Int.le_refl _, by simp only [List.length_cons]; omega, .inl rfl⟩
          · exact alL_fit (x :: a) i b e h
theorem plL_cons (e : Ed) (l : List Ed) (q : Nat) : plL (e :: l) q = if plq e = q then e :: plL l q else plL l q := by
  unfold plL
  rw [List.filter_cons]
  by_cases h : plq e = q
  · rw [if_pos h]; simp [h]
  · rw [if_neg h]; simp [h]
/-- behind word i no edit of word i -/
theorem plL_none {a : List Wd} {i : Nat} {l : List Ed} (h : ∀ e ∈ l, EdFit a (i + 1) e) : plL l (i * 2 + 1) = [] := by
  unfold plL
  rw [List.filter_eq_nil_iff]
  intro e he
  have h1 := (h e he).1
  have h2 : ¬ plq e = i * 2 + 1 := by
    unfold plq
    split <;> omega
  simpa using h2
theorem plq_word (i : Nat) (k : Int) (hk : k = 1 ∨ k = 2) (o n : Wd) : plq ⟨k, i, o, n⟩ = i * 2 + 1 := by
  unfold plq
  rcases hk with rfl | rfl <;> simp
theorem plq_add (i : Nat) (o n : Wd) : plq ⟨3, i, o, n⟩ = i * 2 := by
  unfold plq
  simp
theorem one_head {x : Wd} {a : List Wd} {i q : Nat} {k : Int} (hk : k = 1 ∨ k = 2) {n : Wd} {l : List Ed} (h : ∀ e ∈ l, EdFit a (i + 1) e) (ih : (plL l (q * 2 + 1)).length ≤ 1) : (plL (⟨k, i, x, n⟩ :: l) (q * 2 + 1)).length ≤ 1 := by
  rw [plL_cons, plq_word i k hk]
  by_cases e : i * 2 + 1 = q * 2 + 1
  · obtain rfl : i = q := by omega
    rw [if_pos rfl, plL_none h]
    exact Nat.le_refl _
  · rw [if_neg e]; exact ih
/-- at most one edit of each word -/
theorem alL_one : ∀ (a : List Wd) (i : Nat) (b : List Wd) (q : Nat), (plL (alL a i b) (q * 2 + 1)).length ≤ 1
  | [], i, b, q => by
    have h : plL (alL [] i b) (q * 2 + 1) = [] := by
      unfold plL
      rw [List.filter_eq_nil_iff]
      intro e he
      rw [alL_nil] at he
      obtain ⟨y, -, rfl⟩ := List.mem_map.1 he
      rw [plq_add]
      have : ¬ i * 2 = q * 2 + 1 := by omega
      simpa using this
    rw [h]; exact Nat.zero_le _
  | x :: a, i, [], q => by
    rw [alL_end]
    exact one_head (.inr rfl) (alL_fit a (i + 1) []) (alL_one a (i + 1) [] q)
  | x :: a, i, y :: b, q => by
    rw [alL_cons]
    by_cases e0 : x = y
    · rw [if_pos e0]; exact alL_one a (i + 1) b q
    · rw [if_neg e0]
      by_cases e1 : dsL (x :: a) (y :: b) = 1 + dsL a b
      · rw [if_pos e1]; exact one_head (.inl rfl) (alL_fit a (i + 1) b) (alL_one a (i + 1) b q)
      · rw [if_neg e1]
        by_cases e2 : dsL (x :: a) (y :: b) = 1 + dsL a (y :: b)
        · rw [if_pos e2]; exact one_head (.inr rfl) (alL_fit a (i + 1) (y :: b)) (alL_one a (i + 1) (y :: b) q)
        · rw [if_neg e2, plL_cons, plq_add, if_neg (by omega)]
          exact alL_one (x :: a) i b q
end Go.Proofs.YtmpegkojencbjaaDoor
/- School: what Merge keeps apart. -/
namespace Go.Proofs.YtmpegkojencbjaaDoor
open Go Go.RowKit Go.Shelf
set_option maxHeartbeats 2000000
set_option maxRecDepth 100000
/-- three texts that are listed -/
theorem three_texts (A B C : Option Addr) (c d f : Nat) (a b e : List Wd) (w : World) (ha : SzOk a) (hb : SzOk b) (he : SzOk e) (hA : SR w w.heap.size A a) (hB : SR w w.heap.size B b) (hC : SR w w.heap.size C e) :
    TxR (w.alloc (.cells #[.slice A a.length c, .slice B b.length d, .slice C e.length f] 22)) (w.alloc (.cells #[.slice A a.length c, .slice B b.length d, .slice C e.length f] 22)).heap.size (some ⟨w.heap.size, 0, none⟩) 3 (fun k => if k = 0 then A else if k = 1 then B else C) (fun k => if k = 0 then c else if k = 1 then d else f) (fun k => if k = 0 then a else if k = 1 then b else e) := by
  have hB0 : Below w.heap.size w (w.alloc (.cells #[.slice A a.length c, .slice B b.length d, .slice C e.length f] 22)) := (Below.refl _ _).alloc (Nat.le_refl _) (.cells #[.slice A a.length c, .slice B b.length d, .slice C e.length f] 22)
  have hN := Blk.new w 22 #[.slice A a.length c, .slice B b.length d, .slice C e.length f]
  have hsz := hB0.size
  refine ⟨fun _ => ⟨w.heap.size, 0, rfl, by simp, fun k i hk hi => ?_⟩, fun k hk => ?_⟩
  · rcases (by omega : k = 0 ∨ k = 1 ∨ k = 2) with rfl | rfl | rfl <;> rcases (by omega : i = 0) with rfl
    · rw [hN.cell]; rfl
    · rw [hN.cell]; rfl
    · rw [hN.cell]; rfl
  · rcases (by omega : k = 0 ∨ k = 1 ∨ k = 2) with rfl | rfl | rfl
    · exact ⟨ha, (hA.below hB0 (Nat.le_refl _)).more hsz⟩
    · exact ⟨hb, (hB.below hB0 (Nat.le_refl _)).more hsz⟩
    · exact ⟨he, (hC.below hB0 (Nat.le_refl _)).more hsz⟩
/-- own lists of different types lie apart -/
theorem own_own_ne {w : World} {b1 b2 : Nat} {e1 e2 : TypeId} {s1 s2 n1 n2 : Nat} {v1 v2 : Value} {x1 x2 : List Value} (h1 : w.ownsRow b1 e1 s1 v1 n1 x1) (h2 : w.ownsRow b2 e2 s2 v2 n2 x2) (hne : e1 ≠ e2) :
    v1.ownBlock = none ∨ v1.ownBlock ≠ v2.ownBlock := by
  rcases h2.2 with ⟨rfl, -⟩ | ⟨g, cap, cur, rfl, -, hg, -⟩
  · cases hv : v1.ownBlock with
    | none => exact .inl rfl
    | some k => exact .inr (by simp [Value.ownBlock])
  · refine .inr (fun e => own_blk_ne h1 (g := g) (t := e2) (cs := cur) hg hne ?_)
    rw [e]; rfl
/-- an own list stays where an editor writes -/
theorem own_kx {w w' : World} {X : Nat} {row : Option Nat} {b n s : Nat} {t : TypeId} {v : Value} {xs : List Value} (h : w.ownsRow b t s v n xs) (hk : KX w w' X row) (h1 : v.ownBlock ≠ some X) (h2 : v.ownBlock = none ∨ v.ownBlock ≠ row) : w'.ownsRow b t s v n xs := by
  refine ⟨h.1, ?_⟩
  rcases h.2 with ⟨rfl, h0⟩ | ⟨g, cap, cur, rfl, hb, hg, h3⟩
  · exact .inl ⟨rfl, h0⟩
  · refine .inr ⟨g, cap, cur, rfl, hb, ?_, h3⟩
    have hlt := (World.ownsRow.lt h g rfl).2
    rw [hk.block g hlt (fun e => h1 (by rw [e]; rfl)) ?_]
    · exact hg
    · rcases h2 with h2 | h2
      · cases h2
      · exact h2
theorem PL.kx {w W W' : World} {D n : Nat} {v : Nat → Value} {f : Nat → List Ed} {X : Nat} {row : Option Nat} {A : Option Addr} {c : Nat} {a : List Wd} {i : Nat} {u : Value} {l : List Wd} {w0 : World} (h : PL w W D n v f) (hX : EX w0 W X A c a i u l) (hk : KX W W' X u.ownBlock) (hw : w.heap.size ≤ X) (hw2 : w.heap.size ≤ w0.heap.size) : PL w W' D n v f := by
  have hD : D ≠ X := h.blk.ne_ hX.blk (by decide)
  have hDu : some D ≠ u.ownBlock := fun e => own_blk_ne hX.own h.blk (by decide) e.symm
  refine ⟨⟨hk.os.trans h.below.os, hk.tape.trans h.below.tape, hk.output.trans h.below.output, Nat.le_trans h.below.size hk.size, fun k hk1 => ?_⟩, h.lo, h.blk.kx hk hD hDu, fun q hq => ?_, h.ap⟩
  · refine (hk.block k (Nat.lt_of_lt_of_le hk1 h.below.size) (by omega) (fun e => ?_)).trans (h.below.block k hk1)
    have := (World.ownsRow.lt hX.own k e.symm).1
    omega
  · exact own_kx (h.own q hq) hk (own_blk_ne (h.own q hq) hX.blk (by decide)) (own_own_ne (h.own q hq) hX.own (by decide))
theorem OwnE.kx {W W' : World} {n0 : Nat} {v : Value} {m : List Ed} {X : Nat} {A : Option Addr} {c : Nat} {a : List Wd} {i : Nat} {u : Value} {l : List Wd} {w0 : World} (h : OwnE W n0 v m) (hX : EX w0 W X A c a i u l) (hk : KX W W' X u.ownBlock) : OwnE W' n0 v m :=
  own_kx h hk (own_blk_ne h hX.blk (by decide)) (own_own_ne h hX.own (by decide))
end Go.Proofs.YtmpegkojencbjaaDoor
/- School, plain: what Merge's editor does; every edit that fits is carried out. -/
namespace Go.Proofs.YtmpegkojencbjaaDoor
open Go Go.RowKit Go.Shelf
set_option maxHeartbeats 2000000
set_option maxRecDepth 100000
/-- an edit of the words a that the editor carries out -/
structure EdOk (a : List Wd) (e : Ed) : Prop where
  lo : 0 ≤ e.at_
  hi : e.at_ ≤ a.length
  ki : e.ki = 3 ∨ ((e.ki = 1 ∨ e.ki = 2) ∧ e.at_ < a.length ∧ a.getD e.at_.toNat noW = e.old)
theorem EdFit.ok {a : List Wd} {e : Ed} (h : EdFit a 0 e) : EdOk a e := by
  obtain ⟨h1, h2, h3⟩ := h
  refine ⟨by omega, by omega, h3.imp id (fun ⟨h4, h5, h6⟩ => ⟨h4, by omega, by simpa using h6⟩)⟩
theorem edit_fits (w W : World) (X : Nat) (A : Option Addr) (c : Nat) (a : List Wd) (i : Nat) (v : Value) (l : List Wd) (e : Ed) (hX : EX w W X A c a i v l) (hA : SR w w.heap.size A a) (he : EdOk a e) (hit : i ≤ e.at_.toNat) (hac : a.length ≤ c) (hc : c ≤ maxLen) (hl : l.length + a.length ≤ 100000) :
    Calls Tryd.prog 56 #[.pointer (some ⟨X, 0, none⟩), .agg #[.int .i64 e.ki, .int .i64 e.at_, .string e.old, .string e.new]] W (EdPost w W X A c a (edI i e) v (edL a i e l)) := by
  obtain ⟨ki, at_, old, new⟩ := e
  obtain ⟨h0, h1, h3⟩ := he
  dsimp only at h0 h1 h3 hit ⊢
  obtain ⟨t, rfl⟩ : ∃ t : Nat, at_ = (t : Int) := ⟨at_.toNat, by omega⟩
  have ht : ((t : Int)).toNat = t := by omega
  rw [ht] at h3 hit
  unfold edI edL
  dsimp only
  rw [ht]
  by_cases k3 : ki = 3
  · subst k3
    rw [if_pos rfl, if_neg (by decide)]
    exact edit_add w W X A c a i v l t old new hX hA hit (by omega) hac hc (by omega)
  · obtain ⟨h4, h5, h6⟩ := h3.resolve_left k3
    rw [if_neg k3]
    by_cases k2 : ki = 2
    · rw [if_pos k2, List.append_nil]
      exact edit_drop w W X A c a i v l ki t old new hX hA hit (by omega) k3 h6 k2 hac hc (by omega)
    · rw [if_neg k2]
      exact edit_swap w W X A c a i v l ki t old new hX hA hit (by omega) k3 h6 k2 hac hc (by omega)
theorem edL_len (a : List Wd) (i : Nat) (e : Ed) (l : List Wd) : (edL a i e l).length ≤ l.length + (a.length + 1) := by
  unfold edL takeL
  rw [List.length_append, List.length_append, List.length_take, List.length_drop]
  split <;> simp only [List.length_nil, List.length_cons] <;> omega
/-- edits one after another -/
def edsF (a : List Wd) (s : Nat × List Wd) : List Ed → Nat × List Wd
  | [] => s
  | e :: es => edsF a (edI s.1 e, edL a s.1 e s.2) es
theorem edsF_append (a : List Wd) (s : Nat × List Wd) (es fs : List Ed) : edsF a s (es ++ fs) = edsF a (edsF a s es) fs := by
  induction es generalizing s with
  | nil => rfl
  | cons e es ih => exact ih _
theorem edsF_len (a : List Wd) (es : List Ed) : ∀ s : Nat × List Wd, (edsF a s es).2.length ≤ s.2.length + es.length * (a.length + 1) := by
  induction es with
  | nil => intro s; simp [edsF]
  | cons e es ih =>
    intro s
    have h1 := ih (edI s.1 e, edL a s.1 e s.2)
    have h2 := edL_len a s.1 e s.2
    show (edsF a (edI s.1 e, edL a s.1 e s.2) es).2.length ≤ _
    have h3 : (es.length + 1) * (a.length + 1) = es.length * (a.length + 1) + (a.length + 1) := Nat.succ_mul _ _
    rw [List.length_cons, h3]
    dsimp only at h1
    omega
theorem edsF_take (a : List Wd) (s : Nat × List Wd) (es : List Ed) {k : Nat} (hk : k < es.length) {e : Ed} (he : es.getD k e0 = e) :
    edsF a s (es.take (k + 1)) = (edI (edsF a s (es.take k)).1 e, edL a (edsF a s (es.take k)).1 e (edsF a s (es.take k)).2) := by
  have h1 : es.take (k + 1) = es.take k ++ [e] := by
    rw [List.take_succ_eq_append_getElem hk]
    rw [List.getD_eq_getElem?_getD, List.getElem?_eq_getElem hk] at he
    rw [← he]; rfl
  rw [h1, edsF_append]
  rfl
theorem plL_mem {l : List Ed} {q : Nat} {e : Ed} (h : e ∈ plL l q) : e ∈ l ∧ plq e = q := by
  unfold plL at h
  rw [List.mem_filter] at h
  exact ⟨h.1, of_decide_eq_true h.2⟩
/-- what both say at place k -/
def mgE (la lb : List Ed) (k : Nat) : List Ed := jnL (plL la (k * 2)) (plL lb (k * 2)) ++ jnL (plL la (k * 2 + 1)) (plL lb (k * 2 + 1))
def mgOk (la lb : List Ed) (k : Nat) : Bool := jnB (plL la (k * 2)) (plL lb (k * 2)) && jnB (plL la (k * 2 + 1)) (plL lb (k * 2 + 1))
/-- the editor behind k places -/
def mgF (a : List Wd) (la lb : List Ed) : Nat → Nat × List Wd
  | 0 => (0, [])
  | k + 1 => edsF a (mgF a la lb k) (mgE la lb k)
/-- the first place at which they clash, of n -/
def mgC (la lb : List Ed) : Nat → Option Nat
  | 0 => none
  | n + 1 => match mgC la lb n with | some k => some k | none => if mgOk la lb n then none else some n
theorem mgC_succ (la lb : List Ed) (n : Nat) (h : mgC la lb n = none) : mgC la lb (n + 1) = if mgOk la lb n then none else some n := by
  show (match mgC la lb n with | some k => some k | none => if mgOk la lb n then none else some n) = _
  rw [h]
theorem mgC_some (la lb : List Ed) {k : Nat} : ∀ n m, n ≤ m → mgC la lb n = some k → mgC la lb m = some k := by
  intro n m h
  induction h with
  | refl => exact id
  | step _ ih =>
    intro h1
    show (match mgC la lb _ with | some k => some k | none => _) = _
    rw [ih h1]
section
variable {a : List Wd} {la lb : List Ed} (ha : ∀ e ∈ la, EdFit a 0 e) (hb : ∀ e ∈ lb, EdFit a 0 e)
include ha hb
theorem jn_mem {q : Nat} {e : Ed} (h : e ∈ jnL (plL la q) (plL lb q)) : EdOk a e ∧ plq e = q := by
  unfold jnL at h
  split at h
  · have := plL_mem h; exact ⟨(hb e this.1).ok, this.2⟩
  · have := plL_mem h; exact ⟨(ha e this.1).ok, this.2⟩
omit ha hb in
theorem plq_even {e : Ed} {k : Nat} (he : EdOk a e) (h : plq e = k * 2) : e.ki = 3 ∧ e.at_.toNat = k := by
  unfold plq at h
  have := he.lo
  split at h
  · exact ⟨by assumption, by omega⟩
  · omega
omit ha hb in
theorem plq_odd {e : Ed} {k : Nat} (he : EdOk a e) (h : plq e = k * 2 + 1) : e.ki ≠ 3 ∧ e.at_.toNat = k := by
  unfold plq at h
  have := he.lo
  split at h
  · omega
  · exact ⟨by assumption, by omega⟩
theorem mgE_ok {k : Nat} {e : Ed} (h : e ∈ mgE la lb k) : EdOk a e ∧ e.at_.toNat = k := by
  unfold mgE at h
  rcases List.mem_append.1 h with h | h
  · have h1 := jn_mem ha hb h
    exact ⟨h1.1, (plq_even h1.1 h1.2).2⟩
  · have h1 := jn_mem ha hb h
    exact ⟨h1.1, (plq_odd h1.1 h1.2).2⟩
omit ha hb in
/-- words that are put ahead of word k: the editor's place is at most k -/
theorem adds_place (k : Nat) : ∀ (es : List Ed) (s : Nat × List Wd), (∀ e ∈ es, e.ki = 3 ∧ e.at_.toNat = k) → s.1 ≤ k → (edsF a s es).1 ≤ k
  | [], s, _, hs => hs
  | e :: es, s, h, hs => by
    refine adds_place k es _ (fun e he => h e (List.mem_cons_of_mem _ he)) ?_
    obtain ⟨h1, h2⟩ := h e List.mem_cons_self
    show edI s.1 e ≤ k
    unfold edI
    rw [if_pos h1, h2]
    exact Nat.le_refl _
theorem mg_place (k j : Nat) (s : Nat × List Wd) (hs : s.1 ≤ k) (h1 : ∀ q, (plL la (q * 2 + 1)).length ≤ 1) (h2 : ∀ q, (plL lb (q * 2 + 1)).length ≤ 1) (hj : j < (mgE la lb k).length) : (edsF a s ((mgE la lb k).take j)).1 ≤ k := by
  have hw : (jnL (plL la (k * 2 + 1)) (plL lb (k * 2 + 1))).length ≤ 1 := by
    unfold jnL; split
    · exact h2 k
    · exact h1 k
  have hj2 : j ≤ (jnL (plL la (k * 2)) (plL lb (k * 2))).length := by
    unfold mgE at hj
    rw [List.length_append] at hj
    omega
  unfold mgE
  rw [List.take_append_of_le_length hj2]
  refine adds_place k _ s (fun e he => ?_) hs
  have h3 := jn_mem ha hb (List.mem_of_mem_take he)
  exact plq_even h3.1 h3.2
theorem mg_next (k : Nat) (s : Nat × List Wd) (hs : s.1 ≤ k) (h1 : ∀ q, (plL la (q * 2 + 1)).length ≤ 1) (h2 : ∀ q, (plL lb (q * 2 + 1)).length ≤ 1) : (edsF a s (mgE la lb k)).1 ≤ k + 1 := by
  obtain ⟨es, hes⟩ : ∃ es, mgE la lb k = es := ⟨_, rfl⟩
  rcases Nat.eq_zero_or_pos es.length with h | h
  · rw [hes, List.length_eq_zero_iff.1 h]
    show s.1 ≤ k + 1
    omega
  · have h3 := edsF_take a s es (k := es.length - 1) (by omega) rfl
    rw [Nat.sub_add_cancel h, List.take_length] at h3
    rw [hes, h3]
    have hm : es.getD (es.length - 1) e0 ∈ mgE la lb k := by
      rw [hes, List.getD_eq_getElem?_getD, List.getElem?_eq_getElem (by omega)]
      exact List.getElem_mem _
    have h4 := (mgE_ok ha hb hm).2
    show edI (edsF a s (List.take (es.length - 1) es)).1 (es.getD (es.length - 1) e0) ≤ k + 1
    unfold edI
    split <;> omega
theorem mgF_place (h1 : ∀ q, (plL la (q * 2 + 1)).length ≤ 1) (h2 : ∀ q, (plL lb (q * 2 + 1)).length ≤ 1) : ∀ k, (mgF a la lb k).1 ≤ k
  | 0 => Nat.le_refl _
  | k + 1 => mg_next ha hb k _ (mgF_place h1 h2 k) h1 h2
/-- behind the last place: no word is left out -/
theorem mgF_end (h1 : ∀ q, (plL la (q * 2 + 1)).length ≤ 1) (h2 : ∀ q, (plL lb (q * 2 + 1)).length ≤ 1) : (mgF a la lb (a.length + 1)).1 ≤ a.length := by
  refine adds_place a.length (mgE la lb a.length) _ (fun e he => ?_) (mgF_place ha hb h1 h2 a.length)
  have h3 := mgE_ok ha hb he
  refine ⟨?_, h3.2⟩
  rcases h3.1.ki with h4 | ⟨-, h5, -⟩
  · exact h4
  · have := h3.1.lo
    have := h3.2
    omega
end
theorem jnL_len (l m : List Ed) {n : Nat} (hl : l.length ≤ n) (hm : m.length ≤ n) : (jnL l m).length ≤ n := by
  unfold jnL; split <;> assumption
theorem mgE_len (la lb : List Ed) (k : Nat) {n : Nat} (hl : la.length ≤ n) (hm : lb.length ≤ n) : (mgE la lb k).length ≤ 2 * n := by
  unfold mgE
  rw [List.length_append]
  have h1 := jnL_len (plL la (k * 2)) (plL lb (k * 2)) (n := n) (by have := plL_len la (k * 2); omega) (by have := plL_len lb (k * 2); omega)
  have h2 := jnL_len (plL la (k * 2 + 1)) (plL lb (k * 2 + 1)) (n := n) (by have := plL_len la (k * 2 + 1); omega) (by have := plL_len lb (k * 2 + 1); omega)
  omega
theorem mgF_len (a : List Wd) (la lb : List Ed) (ha : a.length ≤ 20) (hl : la.length ≤ 40) (hm : lb.length ≤ 40) : ∀ k, (mgF a la lb k).2.length ≤ k * 1680
  | 0 => by simp [mgF]
  | k + 1 => by
    have h1 := edsF_len a (mgE la lb k) (mgF a la lb k)
    have h2 := mgE_len la lb k hl hm
    have h3 := mgF_len a la lb ha hl hm k
    have h4 : (mgE la lb k).length * (a.length + 1) ≤ 80 * 21 := Nat.mul_le_mul (by omega) (by omega)
    show (edsF a (mgF a la lb k) (mgE la lb k)).2.length ≤ _
    omega
theorem eds_len (a : List Wd) (la lb : List Ed) (ha : a.length ≤ 20) (hl : la.length ≤ 40) (hm : lb.length ≤ 40) (k j : Nat) : (edsF a (mgF a la lb k) ((mgE la lb k).take j)).2.length ≤ (k + 1) * 1680 := by
  have h1 := edsF_len a ((mgE la lb k).take j) (mgF a la lb k)
  have h2 := mgE_len la lb k hl hm
  have h3 := mgF_len a la lb ha hl hm k
  have h5 : ((mgE la lb k).take j).length ≤ 80 := by rw [List.length_take]; omega
  have h4 : ((mgE la lb k).take j).length * (a.length + 1) ≤ 80 * 21 := Nat.mul_le_mul h5 (by omega)
  omega
/-- what Merge returns for texts with these edits -/
def mgX (base : List Wd) (la lb : List Ed) : List Wd × Int × Int :=
  match mgC la lb (base.length + 1) with
  | some k => ([], (k : Int), 110)
  | none =>
    let s := mgF base la lb (base.length + 1)
    if (takeL base s.1 base.length s.2).length ≤ 20 then (takeL base s.1 base.length s.2, 0, 0) else ([], 0, 5)
theorem mgX_clash {base : List Wd} {la lb : List Ed} {k : Nat} (h : mgC la lb (base.length + 1) = some k) : mgX base la lb = ([], (k : Int), 110) := by
  unfold mgX; rw [h]
theorem mgX_ok {base : List Wd} {la lb : List Ed} {s : Nat × List Wd} {l : List Wd} (h : mgC la lb (base.length + 1) = none) (hs : mgF base la lb (base.length + 1) = s) (hl : takeL base s.1 base.length s.2 = l) (h2 : l.length ≤ 20) : mgX base la lb = (l, 0, 0) := by
  unfold mgX; rw [h]; subst hs; subst hl; dsimp only; rw [if_pos h2]
theorem mgX_long {base : List Wd} {la lb : List Ed} {s : Nat × List Wd} {l : List Wd} (h : mgC la lb (base.length + 1) = none) (hs : mgF base la lb (base.length + 1) = s) (hl : takeL base s.1 base.length s.2 = l) (h2 : ¬ l.length ≤ 20) : mgX base la lb = ([], 0, 5) := by
  unfold mgX; rw [h]; subst hs; subst hl; dsimp only; rw [if_neg h2]
/-- what Merge returns -/
def mgR (base a b : List Wd) : List Wd × Int × Int :=
  if textB base && textB a && textB b then mgX base (alL base 0 a) (alL base 0 b) else ([], 0, 2)
end Go.Proofs.YtmpegkojencbjaaDoor
