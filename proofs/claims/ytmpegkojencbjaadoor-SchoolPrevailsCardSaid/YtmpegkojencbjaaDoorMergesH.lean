/- School: the editor's edit, walked: a word that is there. -/
import Derived.Test.YtmpegkojencbjaaDoorMergesG
set_option linter.unusedSimpArgs false
set_option linter.unusedVariables false
set_option linter.unnecessarySimpa false
namespace Go.Proofs.YtmpegkojencbjaaDoor
open List renaming getElem_toArray → glA, getElem_cons_zero → glB, getElem_cons_succ → glC, setIfInBounds_toArray → glD, set_cons_zero → glE, set_cons_succ → glF
open Go Go.RowKit Go.Shelf
set_option maxHeartbeats 8000000
set_option maxRecDepth 100000
theorem edit_swap (w W : World) (X : Nat) (A : Option Addr) (c : Nat) (a : List Wd) (i : Nat) (v : Value) (l : List Wd) (ki : Int) (t : Nat) (old new : Wd) (hX : EX w W X A c a i v l) (hA : SR w w.heap.size A a) (hit : i ≤ t) (hta : t < a.length) (h3 : ki ≠ 3) (ho : a.getD t noW = old) (h2 : ki ≠ 2) (hac : a.length ≤ c) (hc : c ≤ maxLen) (hl : l.length + t ≤ 100000) :
    Calls Tryd.prog 56 #[.pointer (some ⟨X, 0, none⟩), .agg #[.int .i64 ki, .int .i64 (t : Nat), .string old, .string new]] W (EdPost w W X A c a (t + 1) v (takeL a i t l ++ [new])) := by
  have HB0 := hide ((Below.refl W.heap.size W).alloc (Nat.le_refl _) (.cells #[.int .i64 ki, .int .i64 (t : Nat), .string old, .string new] 86))
  have E1 := Blk.new W 86 #[.int .i64 ki, .int .i64 (t : Nat), .string old, .string new]
  have X1 := hX.ext HB0.out
  have hown := World.ownsRow.lt hX.own
  obtain ⟨n, hn⟩ : ∃ n, a.length = n := ⟨_, rfl⟩
  obtain ⟨g, hg⟩ : ∃ g, W.heap.size = g := ⟨_, rfl⟩
  obtain ⟨b, off, hAA, hb, hx⟩ := VR1.at_ hA hta
  rw [ho] at hx
  have hx1 := (hX.below.cell (p := ⟨b, off + t, none⟩) hb).trans hx
  have hb1 : b < W.heap.size := by have := hX.below.size; omega
  have hx2 := (HB0.out.cell (p := ⟨b, off + t, none⟩) hb1).trans hx1
  have hb2 : b < (W.alloc (.cells #[.int .i64 ki, .int .i64 (t : Nat), .string old, .string new] 86)).heap.size := by have := HB0.out.size; omega
  subst hAA
  rw [hg] at E1 hown
  obtain ⟨w1, hw1⟩ : ∃ w1, W.alloc (.cells #[.int .i64 ki, .int .i64 (t : Nat), .string old, .string new] 86) = w1 := ⟨_, rfl⟩
  rw [hw1] at E1 X1 HB0 hx2 hb2
  have HS1 : Hid (∀ V, Below w1.heap.size w1 V → V.cell? ⟨X, 0, none⟩ = some (.slice (some ⟨b, off, none⟩) n c) ∧ V.cell? ⟨g, 0, none⟩ = some (.int .i64 ki) ∧ V.cell? ⟨g, 1, none⟩ = some (.int .i64 (t : Nat)) ∧ V.cell? ⟨g, 2, none⟩ = some (.string old) ∧ V.cell? ⟨g, 3, none⟩ = some (.string new) ∧ V.cell? ⟨b, off + t, none⟩ = some (.string old)) := hide (fun V h => by
    have h2 := X1.blk.ext h
    rw [hn] at h2
    obtain ⟨e1, e2, e3, e4⟩ := (blk4 (E1.ext h)).2
    exact ⟨(blk3 h2).2.1, e1, e2, e3, e4, (h.cell (p := ⟨b, off + t, none⟩) hb2).trans hx2⟩)
  have HGX : Hid (g ≠ X) := hide (E1.ne_ X1.blk (by decide))
  have HT : Hid (∀ V, Below w1.heap.size w1 V → Calls Tryd.prog 57 #[.pointer (some ⟨X, 0, none⟩), .int .i64 t] V fun e w' => ∃ v', e = .returned (.tuple #[]) ∧ EX w w' X (some ⟨b, off, none⟩) c a t v' (takeL a i t l) ∧ KX V w' X v.ownBlock ∧ (v'.ownBlock = v.ownBlock ∨ ∀ k, v'.ownBlock = some k → V.heap.size ≤ k)) := hide (fun V h => take_any w V X (some ⟨b, off, none⟩) c a i t v l (X1.ext h) hA hit (by omega) hac hc (by omega))
  have HL2 : Hid ((takeL a i t l).length ≤ 1000000 - 1) := hide (by unfold takeL; rw [List.length_append, List.length_take]; omega)
  have HE1 := hide E1
  have HOWN := hide hown
  have hgs : g < w1.heap.size := E1.lt
  rw [hn] at hta hac
  unfold maxLen at hc
  unfold EdPost
  clear E1 X1 hX hA hown hx hx1 hx2 hb hb1 hb2 ho
  have k1 : ¬ (n : Int) < (t : Int) := by omega
  have k2 : ((t : Int) == (n : Int)) = false := by rw [beq_eq_false_iff_ne]; omega
  have k3 : (t == n) = false := by rw [beq_eq_false_iff_ne]; omega
  have k4 : (0 : Int) ≤ (t : Int) := by omega
  have k5 : (t : Int) < (n : Int) := by omega
  have k6 : ¬ t = n := by omega
  have k7 : (ki == 3) = false := by rw [beq_eq_false_iff_ne]; exact h3
  have k8 : (ki != 3) = true := by simp [h3]
  have k9 : IntKind.i64.wrap ((t : Int) + 1) = ((t + 1 : Nat) : Int) := by rw [IntWalk.i64_in _ (by omega)]; omega
  rw [hg]
  go_enter Tryd.func56, Tryd.ntmps56
  go_upto_region 1 with fail
  have HBD := hide ((Below.refl w1.heap.size w1).drew)
  refine wp_region_J (fun W : World => W.cell? ⟨X, 0, none⟩ = some (.slice (some ⟨b, off, none⟩) n c) ∧ W.cell? ⟨g, 0, none⟩ = some (.int .i64 ki) ∧ W.cell? ⟨g, 1, none⟩ = some (.int .i64 (t : Nat)) ∧ W.cell? ⟨g, 2, none⟩ = some (.string old) ∧ W.cell? ⟨g, 3, none⟩ = some (.string new) ∧ W.cell? ⟨b, off + t, none⟩ = some (.string old)) (by kernel_rfl) ?_
  generalize w1.drew = wd at HBD ⊢
  have hs1 := HS1.out _ HBD.out
  refine wpAnyJ_take 0 (v := ?_) (by first | exact hF | exact wideFn) (hs1) rfl (by kernel_rfl) (by kernel_rfl) (by kernel_rfl) (by kernel_rfl) rfl ?_ (by first | exact fun _ _ _ h => h | exact fun _ _ _ h => hQ2 _ _ _ _ _ h) ?_
  rotate_left
  · intro W hSW
    simp only [glA, glB, glC]
    (try dsimp only at hSW)
    go_simp
    with_reducible rfl
  (try simp only [glA, glB, glC, Act.put, glD, glE, glF])
  refine wpAnyJ_take 1 (v := ?_) (by first | exact hF | exact wideFn) (hs1) rfl (by kernel_rfl) (by kernel_rfl) (by kernel_rfl) (by kernel_rfl) rfl ?_ (by first | exact fun _ _ _ h => h | exact fun _ _ _ h => hQ2 _ _ _ _ _ h) ?_
  rotate_left
  · intro W hSW
    simp only [glA, glB, glC]
    (try dsimp only at hSW)
    go_simp
    with_reducible rfl
  (try simp only [glA, glB, glC, Act.put, glD, glE, glF])
  refine wpAnyJ_take 2 (v := ?_) (by first | exact hF | exact wideFn) (hs1) rfl (by kernel_rfl) (by kernel_rfl) (by kernel_rfl) (by kernel_rfl) rfl ?_ (by first | exact fun _ _ _ h => h | exact fun _ _ _ h => hQ2 _ _ _ _ _ h) ?_
  rotate_left
  · intro W hSW
    simp only [glA, glB, glC]
    (try dsimp only at hSW)
    go_simp
    with_reducible rfl
  (try simp only [glA, glB, glC, Act.put, glD, glE, glF])
  refine wpAnyJ_take 3 (v := ?_) (by first | exact hF | exact wideFn) (hs1) rfl (by kernel_rfl) (by kernel_rfl) (by kernel_rfl) (by kernel_rfl) rfl ?_ (by first | exact fun _ _ _ h => h | exact fun _ _ _ h => hQ2 _ _ _ _ _ h) ?_
  rotate_left
  · intro W hSW
    simp only [glA, glB, glC]
    (try dsimp only at hSW)
    go_simp
    with_reducible rfl
  (try simp only [glA, glB, glC, Act.put, glD, glE, glF])
  refine wpAnyJ_take 4 (v := ?_) (by first | exact hF | exact wideFn) (hs1) rfl (by kernel_rfl) (by kernel_rfl) (by kernel_rfl) (by kernel_rfl) rfl ?_ (by first | exact fun _ _ _ h => h | exact fun _ _ _ h => hQ2 _ _ _ _ _ h) ?_
  rotate_left
  · intro W hSW
    simp only [glA, glB, glC]
    (try dsimp only at hSW)
    go_simp
    with_reducible rfl
  (try simp only [glA, glB, glC, Act.put, glD, glE, glF])
  refine wpAnyJ_take 5 (v := ?_) (by first | exact hF | exact wideFn) (hs1) rfl (by kernel_rfl) (by kernel_rfl) (by kernel_rfl) (by kernel_rfl) rfl ?_ (by first | exact fun _ _ _ h => h | exact fun _ _ _ h => hQ2 _ _ _ _ _ h) ?_
  rotate_left
  · intro W hSW
    simp only [glA, glB, glC]
    (try dsimp only at hSW)
    go_simp
    with_reducible rfl
  (try simp only [glA, glB, glC, Act.put, glD, glE, glF])
  refine wpAnyJ_take 6 (v := ?_) (by first | exact hF | exact wideFn) (hs1) rfl (by kernel_rfl) (by kernel_rfl) (by kernel_rfl) (by kernel_rfl) rfl ?_ (by first | exact fun _ _ _ h => h | exact fun _ _ _ h => hQ2 _ _ _ _ _ h) ?_
  rotate_left
  · intro W hSW
    simp only [glA, glB, glC]
    (try dsimp only at hSW)
    go_simp
    with_reducible rfl
  (try simp only [glA, glB, glC, Act.put, glD, glE, glF])
  refine wpAnyJ_take 7 (v := ?_) (by first | exact hF | exact wideFn) (hs1) rfl (by kernel_rfl) (by kernel_rfl) (by kernel_rfl) (by kernel_rfl) rfl ?_ (by first | exact fun _ _ _ h => h | exact fun _ _ _ h => hQ2 _ _ _ _ _ h) ?_
  rotate_left
  · intro W hSW
    simp only [glA, glB, glC]
    (try dsimp only at hSW)
    go_simp
    with_reducible rfl
  (try simp only [glA, glB, glC, Act.put, glD, glE, glF])
  refine wpAnyJ_take 8 (v := ?_) (by first | exact hF | exact wideFn) (hs1) rfl (by kernel_rfl) (by kernel_rfl) (by kernel_rfl) (by kernel_rfl) rfl ?_ (by first | exact fun _ _ _ h => h | exact fun _ _ _ h => hQ2 _ _ _ _ _ h) ?_
  rotate_left
  · intro W hSW
    simp only [glA, glB, glC]
    (try dsimp only at hSW)
    go_simp
    with_reducible rfl
  (try simp only [glA, glB, glC, Act.put, glD, glE, glF])
  refine wpAnyJ_take 9 (v := ?_) (by first | exact hF | exact wideFn) (hs1) rfl (by kernel_rfl) (by kernel_rfl) (by kernel_rfl) (by kernel_rfl) rfl ?_ (by first | exact fun _ _ _ h => h | exact fun _ _ _ h => hQ2 _ _ _ _ _ h) ?_
  rotate_left
  · intro W hSW
    simp only [glA, glB, glC]
    (try dsimp only at hSW)
    go_simp
    with_reducible rfl
  (try simp only [glA, glB, glC, Act.put, glD, glE, glF])
  refine wpAnyJ_take 10 (v := ?_) (by first | exact hF | exact wideFn) (hs1) rfl (by kernel_rfl) (by kernel_rfl) (by kernel_rfl) (by kernel_rfl) rfl ?_ (by first | exact fun _ _ _ h => h | exact fun _ _ _ h => hQ2 _ _ _ _ _ h) ?_
  rotate_left
  · intro W hSW
    simp only [glA, glB, glC]
    (try dsimp only at hSW)
    go_simp
    with_reducible rfl
  (try simp only [glA, glB, glC, Act.put, glD, glE, glF])
  refine wpAnyJ_take 11 (v := ?_) (by first | exact hF | exact wideFn) (hs1) rfl (by kernel_rfl) (by kernel_rfl) (by kernel_rfl) (by kernel_rfl) rfl ?_ (by first | exact fun _ _ _ h => h | exact fun _ _ _ h => hQ2 _ _ _ _ _ h) ?_
  rotate_left
  · intro W hSW
    simp only [glA, glB, glC]
    (try dsimp only at hSW)
    go_simp
    with_reducible rfl
  (try simp only [glA, glB, glC, Act.put, glD, glE, glF])
  refine wpAnyJ_take 12 (v := ?_) (by first | exact hF | exact wideFn) (hs1) rfl (by kernel_rfl) (by kernel_rfl) (by kernel_rfl) (by kernel_rfl) rfl ?_ (by first | exact fun _ _ _ h => h | exact fun _ _ _ h => hQ2 _ _ _ _ _ h) ?_
  rotate_left
  · intro W hSW
    simp only [glA, glB, glC]
    (try dsimp only at hSW)
    go_simp
    with_reducible rfl
  (try simp only [glA, glB, glC, Act.put, glD, glE, glF])
  refine wpAnyJ_take 13 (v := ?_) (by first | exact hF | exact wideFn) (hs1) rfl (by kernel_rfl) (by kernel_rfl) (by kernel_rfl) (by kernel_rfl) rfl ?_ (by first | exact fun _ _ _ h => h | exact fun _ _ _ h => hQ2 _ _ _ _ _ h) ?_
  rotate_left
  · intro W hSW
    simp only [glA, glB, glC]
    (try dsimp only at hSW)
    go_simp
    with_reducible rfl
  (try simp only [glA, glB, glC, Act.put, glD, glE, glF])
  refine wpAnyJ_take 14 (v := ?_) (by first | exact hF | exact wideFn) (hs1) rfl (by kernel_rfl) (by kernel_rfl) (by kernel_rfl) (by kernel_rfl) rfl ?_ (by first | exact fun _ _ _ h => h | exact fun _ _ _ h => hQ2 _ _ _ _ _ h) ?_
  rotate_left
  · intro W hSW
    simp only [glA, glB, glC]
    (try dsimp only at hSW)
    go_simp
    with_reducible rfl
  (try simp only [glA, glB, glC, Act.put, glD, glE, glF])
  refine wpAnyJ_take 15 (v := ?_) (by first | exact hF | exact wideFn) (hs1) rfl (by kernel_rfl) (by kernel_rfl) (by kernel_rfl) (by kernel_rfl) rfl ?_ (by first | exact fun _ _ _ h => h | exact fun _ _ _ h => hQ2 _ _ _ _ _ h) ?_
  rotate_left
  · intro W hSW
    simp only [glA, glB, glC]
    (try dsimp only at hSW)
    go_simp
    with_reducible rfl
  (try simp only [glA, glB, glC, Act.put, glD, glE, glF])
  refine wpAnyJ_take 16 (v := ?_) (by first | exact hF | exact wideFn) (hs1) rfl (by kernel_rfl) (by kernel_rfl) (by kernel_rfl) (by kernel_rfl) rfl ?_ (by first | exact fun _ _ _ h => h | exact fun _ _ _ h => hQ2 _ _ _ _ _ h) ?_
  rotate_left
  · intro W hSW
    simp only [glA, glB, glC]
    (try dsimp only at hSW)
    go_simp
    with_reducible rfl
  (try simp only [glA, glB, glC, Act.put, glD, glE, glF])
  refine wpAnyJ_take 17 (v := ?_) (by first | exact hF | exact wideFn) (hs1) rfl (by kernel_rfl) (by kernel_rfl) (by kernel_rfl) (by kernel_rfl) rfl ?_ (by first | exact fun _ _ _ h => h | exact fun _ _ _ h => hQ2 _ _ _ _ _ h) ?_
  rotate_left
  · intro W hSW
    simp only [glA, glB, glC]
    (try dsimp only at hSW)
    go_simp
    with_reducible rfl
  (try simp only [glA, glB, glC, Act.put, glD, glE, glF])
  refine wpAnyJ_skip 18 (by first | exact hF | exact wideFn) (hs1) rfl (by kernel_rfl) (by kernel_rfl) (by kernel_rfl) (by kernel_rfl) rfl (by first | exact fun _ _ _ h => h | exact fun _ _ _ h => hQ2 _ _ _ _ _ h) ?_
  (try simp only [glA, glB, glC, Act.put, glD, glE, glF])
  refine wpAnyJ_skip 19 (by first | exact hF | exact wideFn) (hs1) rfl (by kernel_rfl) (by kernel_rfl) (by kernel_rfl) (by kernel_rfl) rfl (by first | exact fun _ _ _ h => h | exact fun _ _ _ h => hQ2 _ _ _ _ _ h) ?_
  (try simp only [glA, glB, glC, Act.put, glD, glE, glF])
  refine wpAnyJ_skip 20 (by first | exact hF | exact wideFn) (hs1) rfl (by kernel_rfl) (by kernel_rfl) (by kernel_rfl) (by kernel_rfl) rfl (by first | exact fun _ _ _ h => h | exact fun _ _ _ h => hQ2 _ _ _ _ _ h) ?_
  (try simp only [glA, glB, glC, Act.put, glD, glE, glF])
  refine wpAnyJ_take 21 (v := ?_) (by first | exact hF | exact wideFn) (hs1) rfl (by kernel_rfl) (by kernel_rfl) (by kernel_rfl) (by kernel_rfl) rfl ?_ (by first | exact fun _ _ _ h => h | exact fun _ _ _ h => hQ2 _ _ _ _ _ h) ?_
  rotate_left
  · intro W hSW
    simp only [glA, glB, glC]
    (try dsimp only at hSW)
    go_simp
    with_reducible rfl
  (try simp only [glA, glB, glC, Act.put, glD, glE, glF])
  refine wpAnyJ_take 22 (v := ?_) (by first | exact hF | exact wideFn) (hs1) rfl (by kernel_rfl) (by kernel_rfl) (by kernel_rfl) (by kernel_rfl) rfl ?_ (by first | exact fun _ _ _ h => h | exact fun _ _ _ h => hQ2 _ _ _ _ _ h) ?_
  rotate_left
  · intro W hSW
    simp only [glA, glB, glC]
    (try dsimp only at hSW)
    go_simp
    with_reducible rfl
  (try simp only [glA, glB, glC, Act.put, glD, glE, glF])
  refine wpAnyJ_done (by kernel_rfl) ?_
  go_upto_region 3 with fail
  have HBE := hide (HBD.out.trans ((Below.refl wd.heap.size wd).drew.mono HBD.out.size))
  refine wp_region_J (fun W : World => W.cell? ⟨X, 0, none⟩ = some (.slice (some ⟨b, off, none⟩) n c) ∧ W.cell? ⟨g, 0, none⟩ = some (.int .i64 ki) ∧ W.cell? ⟨g, 1, none⟩ = some (.int .i64 (t : Nat)) ∧ W.cell? ⟨g, 2, none⟩ = some (.string old) ∧ W.cell? ⟨g, 3, none⟩ = some (.string new) ∧ W.cell? ⟨b, off + t, none⟩ = some (.string old)) (by kernel_rfl) ?_
  generalize wd.drew = we at HBE ⊢
  have hs3 := HS1.out _ HBE.out
  refine wpAnyJ_take 0 (v := ?_) (by first | exact hF | exact wideFn) (hs3) rfl (by kernel_rfl) (by kernel_rfl) (by kernel_rfl) (by kernel_rfl) rfl ?_ (by first | exact fun _ _ _ h => h | exact fun _ _ _ h => hQ2 _ _ _ _ _ h) ?_
  rotate_left
  · intro W hSW
    simp only [glA, glB, glC]
    (try dsimp only at hSW)
    go_simp
    with_reducible rfl
  (try simp only [glA, glB, glC, Act.put, glD, glE, glF])
  refine wpAnyJ_take 1 (v := ?_) (by first | exact hF | exact wideFn) (hs3) rfl (by kernel_rfl) (by kernel_rfl) (by kernel_rfl) (by kernel_rfl) rfl ?_ (by first | exact fun _ _ _ h => h | exact fun _ _ _ h => hQ2 _ _ _ _ _ h) ?_
  rotate_left
  · intro W hSW
    simp only [glA, glB, glC]
    (try dsimp only at hSW)
    go_simp
    with_reducible rfl
  (try simp only [glA, glB, glC, Act.put, glD, glE, glF])
  refine wpAnyJ_take 2 (v := ?_) (by first | exact hF | exact wideFn) (hs3) rfl (by kernel_rfl) (by kernel_rfl) (by kernel_rfl) (by kernel_rfl) rfl ?_ (by first | exact fun _ _ _ h => h | exact fun _ _ _ h => hQ2 _ _ _ _ _ h) ?_
  rotate_left
  · intro W hSW
    simp only [glA, glB, glC]
    (try dsimp only at hSW)
    go_simp
    with_reducible rfl
  (try simp only [glA, glB, glC, Act.put, glD, glE, glF])
  refine wpAnyJ_take 3 (v := ?_) (by first | exact hF | exact wideFn) (hs3) rfl (by kernel_rfl) (by kernel_rfl) (by kernel_rfl) (by kernel_rfl) rfl ?_ (by first | exact fun _ _ _ h => h | exact fun _ _ _ h => hQ2 _ _ _ _ _ h) ?_
  rotate_left
  · intro W hSW
    simp only [glA, glB, glC]
    (try dsimp only at hSW)
    go_simp
    with_reducible rfl
  (try simp only [glA, glB, glC, Act.put, glD, glE, glF])
  refine wpAnyJ_take 4 (v := ?_) (by first | exact hF | exact wideFn) (hs3) rfl (by kernel_rfl) (by kernel_rfl) (by kernel_rfl) (by kernel_rfl) rfl ?_ (by first | exact fun _ _ _ h => h | exact fun _ _ _ h => hQ2 _ _ _ _ _ h) ?_
  rotate_left
  · intro W hSW
    simp only [glA, glB, glC]
    (try dsimp only at hSW)
    go_simp
    with_reducible rfl
  (try simp only [glA, glB, glC, Act.put, glD, glE, glF])
  refine wpAnyJ_take 5 (v := ?_) (by first | exact hF | exact wideFn) (hs3) rfl (by kernel_rfl) (by kernel_rfl) (by kernel_rfl) (by kernel_rfl) rfl ?_ (by first | exact fun _ _ _ h => h | exact fun _ _ _ h => hQ2 _ _ _ _ _ h) ?_
  rotate_left
  · intro W hSW
    simp only [glA, glB, glC]
    (try dsimp only at hSW)
    go_simp
    with_reducible rfl
  (try simp only [glA, glB, glC, Act.put, glD, glE, glF])
  refine wpAnyJ_take 6 (v := ?_) (by first | exact hF | exact wideFn) (hs3) rfl (by kernel_rfl) (by kernel_rfl) (by kernel_rfl) (by kernel_rfl) rfl ?_ (by first | exact fun _ _ _ h => h | exact fun _ _ _ h => hQ2 _ _ _ _ _ h) ?_
  rotate_left
  · intro W hSW
    simp only [glA, glB, glC]
    (try dsimp only at hSW)
    go_simp
    with_reducible rfl
  (try simp only [glA, glB, glC, Act.put, glD, glE, glF])
  refine wpAnyJ_take 7 (v := ?_) (by first | exact hF | exact wideFn) (hs3) rfl (by kernel_rfl) (by kernel_rfl) (by kernel_rfl) (by kernel_rfl) rfl ?_ (by first | exact fun _ _ _ h => h | exact fun _ _ _ h => hQ2 _ _ _ _ _ h) ?_
  rotate_left
  · intro W hSW
    simp only [glA, glB, glC]
    (try dsimp only at hSW)
    go_simp
    with_reducible rfl
  (try simp only [glA, glB, glC, Act.put, glD, glE, glF])
  refine wpAnyJ_take 8 (v := ?_) (by first | exact hF | exact wideFn) (hs3) rfl (by kernel_rfl) (by kernel_rfl) (by kernel_rfl) (by kernel_rfl) rfl ?_ (by first | exact fun _ _ _ h => h | exact fun _ _ _ h => hQ2 _ _ _ _ _ h) ?_
  rotate_left
  · intro W hSW
    simp only [glA, glB, glC]
    (try dsimp only at hSW)
    go_simp
    with_reducible rfl
  (try simp only [glA, glB, glC, Act.put, glD, glE, glF])
  refine wpAnyJ_take 9 (v := ?_) (by first | exact hF | exact wideFn) (hs3) rfl (by kernel_rfl) (by kernel_rfl) (by kernel_rfl) (by kernel_rfl) rfl ?_ (by first | exact fun _ _ _ h => h | exact fun _ _ _ h => hQ2 _ _ _ _ _ h) ?_
  rotate_left
  · intro W hSW
    simp only [glA, glB, glC]
    (try dsimp only at hSW)
    go_simp
    with_reducible rfl
  (try simp only [glA, glB, glC, Act.put, glD, glE, glF])
  refine wpAnyJ_take 10 (v := ?_) (by first | exact hF | exact wideFn) (hs3) rfl (by kernel_rfl) (by kernel_rfl) (by kernel_rfl) (by kernel_rfl) rfl ?_ (by first | exact fun _ _ _ h => h | exact fun _ _ _ h => hQ2 _ _ _ _ _ h) ?_
  rotate_left
  · intro W hSW
    simp only [glA, glB, glC]
    (try dsimp only at hSW)
    go_simp
    with_reducible rfl
  (try simp only [glA, glB, glC, Act.put, glD, glE, glF])
  refine wpAnyJ_take 11 (v := ?_) (by first | exact hF | exact wideFn) (hs3) rfl (by kernel_rfl) (by kernel_rfl) (by kernel_rfl) (by kernel_rfl) rfl ?_ (by first | exact fun _ _ _ h => h | exact fun _ _ _ h => hQ2 _ _ _ _ _ h) ?_
  rotate_left
  · intro W hSW
    simp only [glA, glB, glC]
    (try dsimp only at hSW)
    go_simp
    with_reducible rfl
  (try simp only [glA, glB, glC, Act.put, glD, glE, glF])
  refine wpAnyJ_take 12 (v := ?_) (by first | exact hF | exact wideFn) (hs3) rfl (by kernel_rfl) (by kernel_rfl) (by kernel_rfl) (by kernel_rfl) rfl ?_ (by first | exact fun _ _ _ h => h | exact fun _ _ _ h => hQ2 _ _ _ _ _ h) ?_
  rotate_left
  · intro W hSW
    simp only [glA, glB, glC]
    (try dsimp only at hSW)
    go_simp
    with_reducible rfl
  (try simp only [glA, glB, glC, Act.put, glD, glE, glF])
  refine wpAnyJ_take 13 (v := ?_) (by first | exact hF | exact wideFn) (hs3) rfl (by kernel_rfl) (by kernel_rfl) (by kernel_rfl) (by kernel_rfl) rfl ?_ (by first | exact fun _ _ _ h => h | exact fun _ _ _ h => hQ2 _ _ _ _ _ h) ?_
  rotate_left
  · intro W hSW
    simp only [glA, glB, glC]
    (try dsimp only at hSW)
    go_simp
    with_reducible rfl
  (try simp only [glA, glB, glC, Act.put, glD, glE, glF])
  refine wpAnyJ_take 14 (v := ?_) (by first | exact hF | exact wideFn) (hs3) rfl (by kernel_rfl) (by kernel_rfl) (by kernel_rfl) (by kernel_rfl) rfl ?_ (by first | exact fun _ _ _ h => h | exact fun _ _ _ h => hQ2 _ _ _ _ _ h) ?_
  rotate_left
  · intro W hSW
    simp only [glA, glB, glC]
    (try dsimp only at hSW)
    go_simp
    with_reducible rfl
  (try simp only [glA, glB, glC, Act.put, glD, glE, glF])
  refine wpAnyJ_take 15 (v := ?_) (by first | exact hF | exact wideFn) (hs3) rfl (by kernel_rfl) (by kernel_rfl) (by kernel_rfl) (by kernel_rfl) rfl ?_ (by first | exact fun _ _ _ h => h | exact fun _ _ _ h => hQ2 _ _ _ _ _ h) ?_
  rotate_left
  · intro W hSW
    simp only [glA, glB, glC]
    (try dsimp only at hSW)
    go_simp
    with_reducible rfl
  (try simp only [glA, glB, glC, Act.put, glD, glE, glF])
  refine wpAnyJ_done (by kernel_rfl) ?_
  have hs5 := hs3.2.2.1
  go_wp2_with fail
  refine (HT.out _ HBE.out).mono ?_
  rintro e w2 ⟨v2, rfl, hX2, hK2, hr2⟩
  have HX2 := hide hX2
  have E2 := hide ((HE1.out.ext HBE.out).kx hK2 HGX.out (fun e => by have := HOWN.out g e.symm; omega))
  have HNE : Hid (some g ≠ v2.ownBlock) := hide (fun e => by
    rcases hr2 with h | h
    · rw [h] at e
      have := HOWN.out g e.symm
      omega
    · have := h g e.symm
      have := HBE.out.size
      omega)
  have HK2 := hide (And.intro hK2 hr2)
  clear hX2 hK2 hr2 hs1 hs3 hs5
  obtain ⟨g0', g0, -⟩ := blk4 E2.out
  have k10 : (ki == 2) = false := by rw [beq_eq_false_iff_ne]; exact h2
  have k11 : (ki != 2) = true := by simp [h2]
  obtain ⟨A3, n3, c3, w3, hrun, hb3, hg3, hX3, hK3, hr3⟩ := (HX2.out.ext (Below.refl w2.heap.size w2).drew).push new (by have := HL2.out; omega)
  try dsimp only at hrun
  have E3 := ((E2.out.ext (Below.refl w2.heap.size w2).drew).alloc (.cells #[.string new] 9)).grown hg3 (fun e => HNE.out e)
  have HS7 : Hid (w2.drew.cell? ⟨X, 2, none⟩ = some v2 ∧ w2.drew.cell? ⟨g, 3, none⟩ = some (.string new)) := hide ⟨(blk3 (HX2.out.blk.drew)).2.2.2.1, (blk4 (E2.out.drew)).2.2.2.2⟩
  have HS8 : Hid ((w2.drew.alloc (.cells #[.string new] 9)).cell? ⟨X, 2, none⟩ = some v2 ∧ (w2.drew.alloc (.cells #[.string new] 9)).cell? ⟨g, 3, none⟩ = some (.string new)) := hide ⟨(blk3 (HX2.out.blk.drew.alloc _)).2.2.2.1, (blk4 (E2.out.drew.alloc _)).2.2.2.2⟩
  have HS9 : Hid (w3.cell? ⟨X, 2, none⟩ = some v2 ∧ w3.cell? ⟨g, 3, none⟩ = some (.string new)) := hide ⟨(blk3 hb3).2.2.2.1, (blk4 E3).2.2.2.2⟩
  have HRUN := hide hrun
  have HX3 := hide hX3
  have HK3 := hide (And.intro hK3 hr3)
  have lX := hb3.lt
  have fX := hb3.frozen 2
  have hgX : g ≠ X := HGX.out
  have E4 := hide (E3.far (p := ⟨X, 2, none⟩) hgX (.slice A3 n3 c3))
  clear hrun hX3 hK3 hr3 E3 hg3 hb3
  go_upto_region 7 with fail
  refine wp_region_K (pickS [4, 6] (fun W : World => W.cell? ⟨X, 2, none⟩ = some v2 ∧ W.cell? ⟨g, 3, none⟩ = some (.string new)) (fun _ => True)) (by kernel_rfl) ?_
  refine wpAnyK_take 0 (v := ?_) (by first | exact hF | exact wideFn) trivial rfl (by kernel_rfl) (by kernel_rfl) (by kernel_rfl) (by kernel_rfl) rfl ?_ (by first | exact fun _ _ _ h => h | exact fun _ _ _ h => hQ2 _ _ _ _ _ h) ?_
  rotate_left
  · intro W hSW
    replace hSW : True := hSW
    simp only [glA, glB, glC]
    (try dsimp only at hSW)
    go_simp
    with_reducible rfl
  (try simp only [glA, glB, glC, Act.put, glD, glE, glF])
  refine wpAnyK_take 1 (v := ?_) (by first | exact hF | exact wideFn) trivial rfl (by kernel_rfl) (by kernel_rfl) (by kernel_rfl) (by kernel_rfl) rfl ?_ (by first | exact fun _ _ _ h => h | exact fun _ _ _ h => hQ2 _ _ _ _ _ h) ?_
  rotate_left
  · intro W hSW
    replace hSW : True := hSW
    simp only [glA, glB, glC]
    (try dsimp only at hSW)
    go_simp
    with_reducible rfl
  (try simp only [glA, glB, glC, Act.put, glD, glE, glF])
  refine wpAnyK_take 2 (v := ?_) (by first | exact hF | exact wideFn) trivial rfl (by kernel_rfl) (by kernel_rfl) (by kernel_rfl) (by kernel_rfl) rfl ?_ (by first | exact fun _ _ _ h => h | exact fun _ _ _ h => hQ2 _ _ _ _ _ h) ?_
  rotate_left
  · intro W hSW
    replace hSW : True := hSW
    simp only [glA, glB, glC]
    (try dsimp only at hSW)
    go_simp
    with_reducible rfl
  (try simp only [glA, glB, glC, Act.put, glD, glE, glF])
  refine wpAnyK_take 3 (v := ?_) (by first | exact hF | exact wideFn) trivial rfl (by kernel_rfl) (by kernel_rfl) (by kernel_rfl) (by kernel_rfl) rfl ?_ (by first | exact fun _ _ _ h => h | exact fun _ _ _ h => hQ2 _ _ _ _ _ h) ?_
  rotate_left
  · intro W hSW
    replace hSW : True := hSW
    simp only [glA, glB, glC]
    (try dsimp only at hSW)
    go_simp
    with_reducible rfl
  (try simp only [glA, glB, glC, Act.put, glD, glE, glF])
  refine wpAnyK_take 4 (v := ?_) (by first | exact hF | exact wideFn) (And.intro HS7.out trivial) rfl (by kernel_rfl) (by kernel_rfl) (by kernel_rfl) (by kernel_rfl) rfl ?_ (by first | exact fun _ _ _ h => h | exact fun _ _ _ h => hQ2 _ _ _ _ _ h) ?_
  rotate_left
  · intro W hSW
    replace hSW : ((W.cell? ⟨X, 2, none⟩ = some v2 ∧ W.cell? ⟨g, 3, none⟩ = some (.string new)) ∧ True) := hSW
    simp only [glA, glB, glC]
    (try dsimp only at hSW)
    go_simp
    with_reducible rfl
  (try simp only [glA, glB, glC, Act.put, glD, glE, glF])
  refine wpAnyK_take 5 (v := ?_) (by first | exact hF | exact wideFn) trivial rfl (by kernel_rfl) (by kernel_rfl) (by kernel_rfl) (by kernel_rfl) rfl ?_ (by first | exact fun _ _ _ h => h | exact fun _ _ _ h => hQ2 _ _ _ _ _ h) ?_
  rotate_left
  · intro W hSW
    replace hSW : True := hSW
    simp only [glA, glB, glC]
    (try dsimp only at hSW)
    go_simp
    with_reducible rfl
  (try simp only [glA, glB, glC, Act.put, glD, glE, glF])
  refine wpAnyK_take 6 (v := ?_) (by first | exact hF | exact wideFn) (And.intro HS7.out trivial) rfl (by kernel_rfl) (by kernel_rfl) (by kernel_rfl) (by kernel_rfl) rfl ?_ (by first | exact fun _ _ _ h => h | exact fun _ _ _ h => hQ2 _ _ _ _ _ h) ?_
  rotate_left
  · intro W hSW
    replace hSW : ((W.cell? ⟨X, 2, none⟩ = some v2 ∧ W.cell? ⟨g, 3, none⟩ = some (.string new)) ∧ True) := hSW
    simp only [glA, glB, glC]
    (try dsimp only at hSW)
    go_simp
    with_reducible rfl
  (try simp only [glA, glB, glC, Act.put, glD, glE, glF])
  refine wpAnyK_one 7 rfl (by kernel_rfl) (fun K hK => ?_)
  simp only [glA, glB, glC]
  go_simp
  refine hK.out _ _ (.inr (pickS_all HS8.out trivial)) ?_
  clear hK K
  (try simp only [glA, glB, glC, Act.put, glD, glE, glF])
  refine wpAnyK_one 8 rfl (by kernel_rfl) (fun K hK => ?_)
  rw [if_pos (by rfl)]
  refine wpIn_append_run (.tmp 55) (.tmp 58) 22 (by first | exact hF | exact wideFn) rfl rfl rfl HRUN.out ?_
  refine hK.out _ _ (.inr (pickS_all HS9.out trivial)) ?_
  clear hK K
  (try simp only [glA, glB, glC, Act.put, glD, glE, glF])
  refine wpAnyK_take 9 (v := ?_) (by first | exact hF | exact wideFn) trivial rfl (by kernel_rfl) (by kernel_rfl) (by kernel_rfl) (by kernel_rfl) rfl ?_ (by first | exact fun _ _ _ h => h | exact fun _ _ _ h => hQ2 _ _ _ _ _ h) ?_
  rotate_left
  · intro W hSW
    replace hSW : True := hSW
    simp only [glA, glB, glC]
    (try dsimp only at hSW)
    go_simp
    with_reducible rfl
  (try simp only [glA, glB, glC, Act.put, glD, glE, glF])
  refine wpAnyK_take 10 (v := ?_) (by first | exact hF | exact wideFn) trivial rfl (by kernel_rfl) (by kernel_rfl) (by kernel_rfl) (by kernel_rfl) rfl ?_ (by first | exact fun _ _ _ h => h | exact fun _ _ _ h => hQ2 _ _ _ _ _ h) ?_
  rotate_left
  · intro W hSW
    replace hSW : True := hSW
    simp only [glA, glB, glC]
    (try dsimp only at hSW)
    go_simp
    with_reducible rfl
  (try simp only [glA, glB, glC, Act.put, glD, glE, glF])
  have cX := HS9.out.1
  refine wpAnyK_one 11 rfl (by kernel_rfl) (fun K hK => ?_)
  simp only [glA, glB, glC]
  go_simp
  refine hK.out _ _ (.inr (pickS_need (by kernel_rfl) trivial)) ?_
  clear hK K
  (try simp only [glA, glB, glC, Act.put, glD, glE, glF])
  refine wpAnyK_done (by kernel_rfl) ?_
  clear cX lX fX
  generalize (w3.setCell ⟨X, 2, none⟩ (.slice A3 n3 c3)) = w4 at HX3 HK3 E4 ⊢
  obtain ⟨g0, g1, -⟩ := blk4 E4.out
  obtain ⟨x0, x1, x2, x3, x4, x5, x6⟩ := blk3 HX3.out.blk
  go_wp2_with fail
  go_ret
  have hWe : Below W.heap.size W we := HB0.out.trans (HBE.out.mono HB0.out.size)
  have q1 := KX.both (v := v) (v2 := v) (v3 := v2) (KX.of_below X _ hWe) (.inl rfl) HK2.out.1 HK2.out.2
  have q2 : KX w2 w4 X v2.ownBlock := (KX.of_below X v2.ownBlock (Below.refl w2.heap.size w2).drew).trans HK3.out.1 (.inl rfl)
  have q3 := KX.both (v := v) (v2 := v2) (v3 := .slice A3 n3 c3) q1.1 q1.2 q2 HK3.out.2
  rw [hg] at q3
  exact ⟨_, rfl, HX3.out.move (t + 1), q3.1.set 1 _, q3.2⟩
theorem edit_drop (w W : World) (X : Nat) (A : Option Addr) (c : Nat) (a : List Wd) (i : Nat) (v : Value) (l : List Wd) (ki : Int) (t : Nat) (old new : Wd) (hX : EX w W X A c a i v l) (hA : SR w w.heap.size A a) (hit : i ≤ t) (hta : t < a.length) (h3 : ki ≠ 3) (ho : a.getD t noW = old) (h2 : ki = 2) (hac : a.length ≤ c) (hc : c ≤ maxLen) (hl : l.length + t ≤ 100000) :
    Calls Tryd.prog 56 #[.pointer (some ⟨X, 0, none⟩), .agg #[.int .i64 ki, .int .i64 (t : Nat), .string old, .string new]] W (EdPost w W X A c a (t + 1) v (takeL a i t l)) := by
  have HB0 := hide ((Below.refl W.heap.size W).alloc (Nat.le_refl _) (.cells #[.int .i64 ki, .int .i64 (t : Nat), .string old, .string new] 86))
  have E1 := Blk.new W 86 #[.int .i64 ki, .int .i64 (t : Nat), .string old, .string new]
  have X1 := hX.ext HB0.out
  have hown := World.ownsRow.lt hX.own
  obtain ⟨n, hn⟩ : ∃ n, a.length = n := ⟨_, rfl⟩
  obtain ⟨g, hg⟩ : ∃ g, W.heap.size = g := ⟨_, rfl⟩
  obtain ⟨b, off, hAA, hb, hx⟩ := VR1.at_ hA hta
  rw [ho] at hx
  have hx1 := (hX.below.cell (p := ⟨b, off + t, none⟩) hb).trans hx
  have hb1 : b < W.heap.size := by have := hX.below.size; omega
  have hx2 := (HB0.out.cell (p := ⟨b, off + t, none⟩) hb1).trans hx1
  have hb2 : b < (W.alloc (.cells #[.int .i64 ki, .int .i64 (t : Nat), .string old, .string new] 86)).heap.size := by have := HB0.out.size; omega
  subst hAA
  rw [hg] at E1 hown
  obtain ⟨w1, hw1⟩ : ∃ w1, W.alloc (.cells #[.int .i64 ki, .int .i64 (t : Nat), .string old, .string new] 86) = w1 := ⟨_, rfl⟩
  rw [hw1] at E1 X1 HB0 hx2 hb2
  have HS1 : Hid (∀ V, Below w1.heap.size w1 V → V.cell? ⟨X, 0, none⟩ = some (.slice (some ⟨b, off, none⟩) n c) ∧ V.cell? ⟨g, 0, none⟩ = some (.int .i64 ki) ∧ V.cell? ⟨g, 1, none⟩ = some (.int .i64 (t : Nat)) ∧ V.cell? ⟨g, 2, none⟩ = some (.string old) ∧ V.cell? ⟨g, 3, none⟩ = some (.string new) ∧ V.cell? ⟨b, off + t, none⟩ = some (.string old)) := hide (fun V h => by
    have h2 := X1.blk.ext h
    rw [hn] at h2
    obtain ⟨e1, e2, e3, e4⟩ := (blk4 (E1.ext h)).2
    exact ⟨(blk3 h2).2.1, e1, e2, e3, e4, (h.cell (p := ⟨b, off + t, none⟩) hb2).trans hx2⟩)
  have HGX : Hid (g ≠ X) := hide (E1.ne_ X1.blk (by decide))
  have HT : Hid (∀ V, Below w1.heap.size w1 V → Calls Tryd.prog 57 #[.pointer (some ⟨X, 0, none⟩), .int .i64 t] V fun e w' => ∃ v', e = .returned (.tuple #[]) ∧ EX w w' X (some ⟨b, off, none⟩) c a t v' (takeL a i t l) ∧ KX V w' X v.ownBlock ∧ (v'.ownBlock = v.ownBlock ∨ ∀ k, v'.ownBlock = some k → V.heap.size ≤ k)) := hide (fun V h => take_any w V X (some ⟨b, off, none⟩) c a i t v l (X1.ext h) hA hit (by omega) hac hc (by omega))
  have HL2 : Hid ((takeL a i t l).length ≤ 1000000 - 1) := hide (by unfold takeL; rw [List.length_append, List.length_take]; omega)
  have HE1 := hide E1
  have HOWN := hide hown
  have hgs : g < w1.heap.size := E1.lt
  rw [hn] at hta hac
  unfold maxLen at hc
  unfold EdPost
  clear E1 X1 hX hA hown hx hx1 hx2 hb hb1 hb2 ho
  have k1 : ¬ (n : Int) < (t : Int) := by omega
  have k2 : ((t : Int) == (n : Int)) = false := by rw [beq_eq_false_iff_ne]; omega
  have k3 : (t == n) = false := by rw [beq_eq_false_iff_ne]; omega
  have k4 : (0 : Int) ≤ (t : Int) := by omega
  have k5 : (t : Int) < (n : Int) := by omega
  have k6 : ¬ t = n := by omega
  have k7 : (ki == 3) = false := by rw [beq_eq_false_iff_ne]; exact h3
  have k8 : (ki != 3) = true := by simp [h3]
  have k9 : IntKind.i64.wrap ((t : Int) + 1) = ((t + 1 : Nat) : Int) := by rw [IntWalk.i64_in _ (by omega)]; omega
  have k10 : (ki == 2) = true := by rw [h2]; rfl
  have k11 : (ki != 2) = false := by rw [h2]; rfl
  clear h2 h3
  rw [hg]
  go_enter Tryd.func56, Tryd.ntmps56
  go_upto_region 1 with fail
  have HBD := hide ((Below.refl w1.heap.size w1).drew)
  refine wp_region_J (fun W : World => W.cell? ⟨X, 0, none⟩ = some (.slice (some ⟨b, off, none⟩) n c) ∧ W.cell? ⟨g, 0, none⟩ = some (.int .i64 ki) ∧ W.cell? ⟨g, 1, none⟩ = some (.int .i64 (t : Nat)) ∧ W.cell? ⟨g, 2, none⟩ = some (.string old) ∧ W.cell? ⟨g, 3, none⟩ = some (.string new) ∧ W.cell? ⟨b, off + t, none⟩ = some (.string old)) (by kernel_rfl) ?_
  generalize w1.drew = wd at HBD ⊢
  have hs1 := HS1.out _ HBD.out
  refine wpAnyJ_take 0 (v := ?_) (by first | exact hF | exact wideFn) (hs1) rfl (by kernel_rfl) (by kernel_rfl) (by kernel_rfl) (by kernel_rfl) rfl ?_ (by first | exact fun _ _ _ h => h | exact fun _ _ _ h => hQ2 _ _ _ _ _ h) ?_
  rotate_left
  · intro W hSW
    simp only [glA, glB, glC]
    (try dsimp only at hSW)
    go_simp
    with_reducible rfl
  (try simp only [glA, glB, glC, Act.put, glD, glE, glF])
  refine wpAnyJ_take 1 (v := ?_) (by first | exact hF | exact wideFn) (hs1) rfl (by kernel_rfl) (by kernel_rfl) (by kernel_rfl) (by kernel_rfl) rfl ?_ (by first | exact fun _ _ _ h => h | exact fun _ _ _ h => hQ2 _ _ _ _ _ h) ?_
  rotate_left
  · intro W hSW
    simp only [glA, glB, glC]
    (try dsimp only at hSW)
    go_simp
    with_reducible rfl
  (try simp only [glA, glB, glC, Act.put, glD, glE, glF])
  refine wpAnyJ_take 2 (v := ?_) (by first | exact hF | exact wideFn) (hs1) rfl (by kernel_rfl) (by kernel_rfl) (by kernel_rfl) (by kernel_rfl) rfl ?_ (by first | exact fun _ _ _ h => h | exact fun _ _ _ h => hQ2 _ _ _ _ _ h) ?_
  rotate_left
  · intro W hSW
    simp only [glA, glB, glC]
    (try dsimp only at hSW)
    go_simp
    with_reducible rfl
  (try simp only [glA, glB, glC, Act.put, glD, glE, glF])
  refine wpAnyJ_take 3 (v := ?_) (by first | exact hF | exact wideFn) (hs1) rfl (by kernel_rfl) (by kernel_rfl) (by kernel_rfl) (by kernel_rfl) rfl ?_ (by first | exact fun _ _ _ h => h | exact fun _ _ _ h => hQ2 _ _ _ _ _ h) ?_
  rotate_left
  · intro W hSW
    simp only [glA, glB, glC]
    (try dsimp only at hSW)
    go_simp
    with_reducible rfl
  (try simp only [glA, glB, glC, Act.put, glD, glE, glF])
  refine wpAnyJ_take 4 (v := ?_) (by first | exact hF | exact wideFn) (hs1) rfl (by kernel_rfl) (by kernel_rfl) (by kernel_rfl) (by kernel_rfl) rfl ?_ (by first | exact fun _ _ _ h => h | exact fun _ _ _ h => hQ2 _ _ _ _ _ h) ?_
  rotate_left
  · intro W hSW
    simp only [glA, glB, glC]
    (try dsimp only at hSW)
    go_simp
    with_reducible rfl
  (try simp only [glA, glB, glC, Act.put, glD, glE, glF])
  refine wpAnyJ_take 5 (v := ?_) (by first | exact hF | exact wideFn) (hs1) rfl (by kernel_rfl) (by kernel_rfl) (by kernel_rfl) (by kernel_rfl) rfl ?_ (by first | exact fun _ _ _ h => h | exact fun _ _ _ h => hQ2 _ _ _ _ _ h) ?_
  rotate_left
  · intro W hSW
    simp only [glA, glB, glC]
    (try dsimp only at hSW)
    go_simp
    with_reducible rfl
  (try simp only [glA, glB, glC, Act.put, glD, glE, glF])
  refine wpAnyJ_take 6 (v := ?_) (by first | exact hF | exact wideFn) (hs1) rfl (by kernel_rfl) (by kernel_rfl) (by kernel_rfl) (by kernel_rfl) rfl ?_ (by first | exact fun _ _ _ h => h | exact fun _ _ _ h => hQ2 _ _ _ _ _ h) ?_
  rotate_left
  · intro W hSW
    simp only [glA, glB, glC]
    (try dsimp only at hSW)
    go_simp
    with_reducible rfl
  (try simp only [glA, glB, glC, Act.put, glD, glE, glF])
  refine wpAnyJ_take 7 (v := ?_) (by first | exact hF | exact wideFn) (hs1) rfl (by kernel_rfl) (by kernel_rfl) (by kernel_rfl) (by kernel_rfl) rfl ?_ (by first | exact fun _ _ _ h => h | exact fun _ _ _ h => hQ2 _ _ _ _ _ h) ?_
  rotate_left
  · intro W hSW
    simp only [glA, glB, glC]
    (try dsimp only at hSW)
    go_simp
    with_reducible rfl
  (try simp only [glA, glB, glC, Act.put, glD, glE, glF])
  refine wpAnyJ_take 8 (v := ?_) (by first | exact hF | exact wideFn) (hs1) rfl (by kernel_rfl) (by kernel_rfl) (by kernel_rfl) (by kernel_rfl) rfl ?_ (by first | exact fun _ _ _ h => h | exact fun _ _ _ h => hQ2 _ _ _ _ _ h) ?_
  rotate_left
  · intro W hSW
    simp only [glA, glB, glC]
    (try dsimp only at hSW)
    go_simp
    with_reducible rfl
  (try simp only [glA, glB, glC, Act.put, glD, glE, glF])
  refine wpAnyJ_take 9 (v := ?_) (by first | exact hF | exact wideFn) (hs1) rfl (by kernel_rfl) (by kernel_rfl) (by kernel_rfl) (by kernel_rfl) rfl ?_ (by first | exact fun _ _ _ h => h | exact fun _ _ _ h => hQ2 _ _ _ _ _ h) ?_
  rotate_left
  · intro W hSW
    simp only [glA, glB, glC]
    (try dsimp only at hSW)
    go_simp
    with_reducible rfl
  (try simp only [glA, glB, glC, Act.put, glD, glE, glF])
  refine wpAnyJ_take 10 (v := ?_) (by first | exact hF | exact wideFn) (hs1) rfl (by kernel_rfl) (by kernel_rfl) (by kernel_rfl) (by kernel_rfl) rfl ?_ (by first | exact fun _ _ _ h => h | exact fun _ _ _ h => hQ2 _ _ _ _ _ h) ?_
  rotate_left
  · intro W hSW
    simp only [glA, glB, glC]
    (try dsimp only at hSW)
    go_simp
    with_reducible rfl
  (try simp only [glA, glB, glC, Act.put, glD, glE, glF])
  refine wpAnyJ_take 11 (v := ?_) (by first | exact hF | exact wideFn) (hs1) rfl (by kernel_rfl) (by kernel_rfl) (by kernel_rfl) (by kernel_rfl) rfl ?_ (by first | exact fun _ _ _ h => h | exact fun _ _ _ h => hQ2 _ _ _ _ _ h) ?_
  rotate_left
  · intro W hSW
    simp only [glA, glB, glC]
    (try dsimp only at hSW)
    go_simp
    with_reducible rfl
  (try simp only [glA, glB, glC, Act.put, glD, glE, glF])
  refine wpAnyJ_take 12 (v := ?_) (by first | exact hF | exact wideFn) (hs1) rfl (by kernel_rfl) (by kernel_rfl) (by kernel_rfl) (by kernel_rfl) rfl ?_ (by first | exact fun _ _ _ h => h | exact fun _ _ _ h => hQ2 _ _ _ _ _ h) ?_
  rotate_left
  · intro W hSW
    simp only [glA, glB, glC]
    (try dsimp only at hSW)
    go_simp
    with_reducible rfl
  (try simp only [glA, glB, glC, Act.put, glD, glE, glF])
  refine wpAnyJ_take 13 (v := ?_) (by first | exact hF | exact wideFn) (hs1) rfl (by kernel_rfl) (by kernel_rfl) (by kernel_rfl) (by kernel_rfl) rfl ?_ (by first | exact fun _ _ _ h => h | exact fun _ _ _ h => hQ2 _ _ _ _ _ h) ?_
  rotate_left
  · intro W hSW
    simp only [glA, glB, glC]
    (try dsimp only at hSW)
    go_simp
    with_reducible rfl
  (try simp only [glA, glB, glC, Act.put, glD, glE, glF])
  refine wpAnyJ_take 14 (v := ?_) (by first | exact hF | exact wideFn) (hs1) rfl (by kernel_rfl) (by kernel_rfl) (by kernel_rfl) (by kernel_rfl) rfl ?_ (by first | exact fun _ _ _ h => h | exact fun _ _ _ h => hQ2 _ _ _ _ _ h) ?_
  rotate_left
  · intro W hSW
    simp only [glA, glB, glC]
    (try dsimp only at hSW)
    go_simp
    with_reducible rfl
  (try simp only [glA, glB, glC, Act.put, glD, glE, glF])
  refine wpAnyJ_take 15 (v := ?_) (by first | exact hF | exact wideFn) (hs1) rfl (by kernel_rfl) (by kernel_rfl) (by kernel_rfl) (by kernel_rfl) rfl ?_ (by first | exact fun _ _ _ h => h | exact fun _ _ _ h => hQ2 _ _ _ _ _ h) ?_
  rotate_left
  · intro W hSW
    simp only [glA, glB, glC]
    (try dsimp only at hSW)
    go_simp
    with_reducible rfl
  (try simp only [glA, glB, glC, Act.put, glD, glE, glF])
  refine wpAnyJ_take 16 (v := ?_) (by first | exact hF | exact wideFn) (hs1) rfl (by kernel_rfl) (by kernel_rfl) (by kernel_rfl) (by kernel_rfl) rfl ?_ (by first | exact fun _ _ _ h => h | exact fun _ _ _ h => hQ2 _ _ _ _ _ h) ?_
  rotate_left
  · intro W hSW
    simp only [glA, glB, glC]
    (try dsimp only at hSW)
    go_simp
    with_reducible rfl
  (try simp only [glA, glB, glC, Act.put, glD, glE, glF])
  refine wpAnyJ_take 17 (v := ?_) (by first | exact hF | exact wideFn) (hs1) rfl (by kernel_rfl) (by kernel_rfl) (by kernel_rfl) (by kernel_rfl) rfl ?_ (by first | exact fun _ _ _ h => h | exact fun _ _ _ h => hQ2 _ _ _ _ _ h) ?_
  rotate_left
  · intro W hSW
    simp only [glA, glB, glC]
    (try dsimp only at hSW)
    go_simp
    with_reducible rfl
  (try simp only [glA, glB, glC, Act.put, glD, glE, glF])
  refine wpAnyJ_skip 18 (by first | exact hF | exact wideFn) (hs1) rfl (by kernel_rfl) (by kernel_rfl) (by kernel_rfl) (by kernel_rfl) rfl (by first | exact fun _ _ _ h => h | exact fun _ _ _ h => hQ2 _ _ _ _ _ h) ?_
  (try simp only [glA, glB, glC, Act.put, glD, glE, glF])
  refine wpAnyJ_skip 19 (by first | exact hF | exact wideFn) (hs1) rfl (by kernel_rfl) (by kernel_rfl) (by kernel_rfl) (by kernel_rfl) rfl (by first | exact fun _ _ _ h => h | exact fun _ _ _ h => hQ2 _ _ _ _ _ h) ?_
  (try simp only [glA, glB, glC, Act.put, glD, glE, glF])
  refine wpAnyJ_skip 20 (by first | exact hF | exact wideFn) (hs1) rfl (by kernel_rfl) (by kernel_rfl) (by kernel_rfl) (by kernel_rfl) rfl (by first | exact fun _ _ _ h => h | exact fun _ _ _ h => hQ2 _ _ _ _ _ h) ?_
  (try simp only [glA, glB, glC, Act.put, glD, glE, glF])
  refine wpAnyJ_take 21 (v := ?_) (by first | exact hF | exact wideFn) (hs1) rfl (by kernel_rfl) (by kernel_rfl) (by kernel_rfl) (by kernel_rfl) rfl ?_ (by first | exact fun _ _ _ h => h | exact fun _ _ _ h => hQ2 _ _ _ _ _ h) ?_
  rotate_left
  · intro W hSW
    simp only [glA, glB, glC]
    (try dsimp only at hSW)
    go_simp
    with_reducible rfl
  (try simp only [glA, glB, glC, Act.put, glD, glE, glF])
  refine wpAnyJ_take 22 (v := ?_) (by first | exact hF | exact wideFn) (hs1) rfl (by kernel_rfl) (by kernel_rfl) (by kernel_rfl) (by kernel_rfl) rfl ?_ (by first | exact fun _ _ _ h => h | exact fun _ _ _ h => hQ2 _ _ _ _ _ h) ?_
  rotate_left
  · intro W hSW
    simp only [glA, glB, glC]
    (try dsimp only at hSW)
    go_simp
    with_reducible rfl
  (try simp only [glA, glB, glC, Act.put, glD, glE, glF])
  refine wpAnyJ_done (by kernel_rfl) ?_
  go_upto_region 3 with fail
  have HBE := hide (HBD.out.trans ((Below.refl wd.heap.size wd).drew.mono HBD.out.size))
  refine wp_region_J (fun W : World => W.cell? ⟨X, 0, none⟩ = some (.slice (some ⟨b, off, none⟩) n c) ∧ W.cell? ⟨g, 0, none⟩ = some (.int .i64 ki) ∧ W.cell? ⟨g, 1, none⟩ = some (.int .i64 (t : Nat)) ∧ W.cell? ⟨g, 2, none⟩ = some (.string old) ∧ W.cell? ⟨g, 3, none⟩ = some (.string new) ∧ W.cell? ⟨b, off + t, none⟩ = some (.string old)) (by kernel_rfl) ?_
  generalize wd.drew = we at HBE ⊢
  have hs3 := HS1.out _ HBE.out
  refine wpAnyJ_take 0 (v := ?_) (by first | exact hF | exact wideFn) (hs3) rfl (by kernel_rfl) (by kernel_rfl) (by kernel_rfl) (by kernel_rfl) rfl ?_ (by first | exact fun _ _ _ h => h | exact fun _ _ _ h => hQ2 _ _ _ _ _ h) ?_
  rotate_left
  · intro W hSW
    simp only [glA, glB, glC]
    (try dsimp only at hSW)
    go_simp
    with_reducible rfl
  (try simp only [glA, glB, glC, Act.put, glD, glE, glF])
  refine wpAnyJ_take 1 (v := ?_) (by first | exact hF | exact wideFn) (hs3) rfl (by kernel_rfl) (by kernel_rfl) (by kernel_rfl) (by kernel_rfl) rfl ?_ (by first | exact fun _ _ _ h => h | exact fun _ _ _ h => hQ2 _ _ _ _ _ h) ?_
  rotate_left
  · intro W hSW
    simp only [glA, glB, glC]
    (try dsimp only at hSW)
    go_simp
    with_reducible rfl
  (try simp only [glA, glB, glC, Act.put, glD, glE, glF])
  refine wpAnyJ_take 2 (v := ?_) (by first | exact hF | exact wideFn) (hs3) rfl (by kernel_rfl) (by kernel_rfl) (by kernel_rfl) (by kernel_rfl) rfl ?_ (by first | exact fun _ _ _ h => h | exact fun _ _ _ h => hQ2 _ _ _ _ _ h) ?_
  rotate_left
  · intro W hSW
    simp only [glA, glB, glC]
    (try dsimp only at hSW)
    go_simp
    with_reducible rfl
  (try simp only [glA, glB, glC, Act.put, glD, glE, glF])
  refine wpAnyJ_take 3 (v := ?_) (by first | exact hF | exact wideFn) (hs3) rfl (by kernel_rfl) (by kernel_rfl) (by kernel_rfl) (by kernel_rfl) rfl ?_ (by first | exact fun _ _ _ h => h | exact fun _ _ _ h => hQ2 _ _ _ _ _ h) ?_
  rotate_left
  · intro W hSW
    simp only [glA, glB, glC]
    (try dsimp only at hSW)
    go_simp
    with_reducible rfl
  (try simp only [glA, glB, glC, Act.put, glD, glE, glF])
  refine wpAnyJ_take 4 (v := ?_) (by first | exact hF | exact wideFn) (hs3) rfl (by kernel_rfl) (by kernel_rfl) (by kernel_rfl) (by kernel_rfl) rfl ?_ (by first | exact fun _ _ _ h => h | exact fun _ _ _ h => hQ2 _ _ _ _ _ h) ?_
  rotate_left
  · intro W hSW
    simp only [glA, glB, glC]
    (try dsimp only at hSW)
    go_simp
    with_reducible rfl
  (try simp only [glA, glB, glC, Act.put, glD, glE, glF])
  refine wpAnyJ_take 5 (v := ?_) (by first | exact hF | exact wideFn) (hs3) rfl (by kernel_rfl) (by kernel_rfl) (by kernel_rfl) (by kernel_rfl) rfl ?_ (by first | exact fun _ _ _ h => h | exact fun _ _ _ h => hQ2 _ _ _ _ _ h) ?_
  rotate_left
  · intro W hSW
    simp only [glA, glB, glC]
    (try dsimp only at hSW)
    go_simp
    with_reducible rfl
  (try simp only [glA, glB, glC, Act.put, glD, glE, glF])
  refine wpAnyJ_take 6 (v := ?_) (by first | exact hF | exact wideFn) (hs3) rfl (by kernel_rfl) (by kernel_rfl) (by kernel_rfl) (by kernel_rfl) rfl ?_ (by first | exact fun _ _ _ h => h | exact fun _ _ _ h => hQ2 _ _ _ _ _ h) ?_
  rotate_left
  · intro W hSW
    simp only [glA, glB, glC]
    (try dsimp only at hSW)
    go_simp
    with_reducible rfl
  (try simp only [glA, glB, glC, Act.put, glD, glE, glF])
  refine wpAnyJ_take 7 (v := ?_) (by first | exact hF | exact wideFn) (hs3) rfl (by kernel_rfl) (by kernel_rfl) (by kernel_rfl) (by kernel_rfl) rfl ?_ (by first | exact fun _ _ _ h => h | exact fun _ _ _ h => hQ2 _ _ _ _ _ h) ?_
  rotate_left
  · intro W hSW
    simp only [glA, glB, glC]
    (try dsimp only at hSW)
    go_simp
    with_reducible rfl
  (try simp only [glA, glB, glC, Act.put, glD, glE, glF])
  refine wpAnyJ_take 8 (v := ?_) (by first | exact hF | exact wideFn) (hs3) rfl (by kernel_rfl) (by kernel_rfl) (by kernel_rfl) (by kernel_rfl) rfl ?_ (by first | exact fun _ _ _ h => h | exact fun _ _ _ h => hQ2 _ _ _ _ _ h) ?_
  rotate_left
  · intro W hSW
    simp only [glA, glB, glC]
    (try dsimp only at hSW)
    go_simp
    with_reducible rfl
  (try simp only [glA, glB, glC, Act.put, glD, glE, glF])
  refine wpAnyJ_take 9 (v := ?_) (by first | exact hF | exact wideFn) (hs3) rfl (by kernel_rfl) (by kernel_rfl) (by kernel_rfl) (by kernel_rfl) rfl ?_ (by first | exact fun _ _ _ h => h | exact fun _ _ _ h => hQ2 _ _ _ _ _ h) ?_
  rotate_left
  · intro W hSW
    simp only [glA, glB, glC]
    (try dsimp only at hSW)
    go_simp
    with_reducible rfl
  (try simp only [glA, glB, glC, Act.put, glD, glE, glF])
  refine wpAnyJ_take 10 (v := ?_) (by first | exact hF | exact wideFn) (hs3) rfl (by kernel_rfl) (by kernel_rfl) (by kernel_rfl) (by kernel_rfl) rfl ?_ (by first | exact fun _ _ _ h => h | exact fun _ _ _ h => hQ2 _ _ _ _ _ h) ?_
  rotate_left
  · intro W hSW
    simp only [glA, glB, glC]
    (try dsimp only at hSW)
    go_simp
    with_reducible rfl
  (try simp only [glA, glB, glC, Act.put, glD, glE, glF])
  refine wpAnyJ_take 11 (v := ?_) (by first | exact hF | exact wideFn) (hs3) rfl (by kernel_rfl) (by kernel_rfl) (by kernel_rfl) (by kernel_rfl) rfl ?_ (by first | exact fun _ _ _ h => h | exact fun _ _ _ h => hQ2 _ _ _ _ _ h) ?_
  rotate_left
  · intro W hSW
    simp only [glA, glB, glC]
    (try dsimp only at hSW)
    go_simp
    with_reducible rfl
  (try simp only [glA, glB, glC, Act.put, glD, glE, glF])
  refine wpAnyJ_take 12 (v := ?_) (by first | exact hF | exact wideFn) (hs3) rfl (by kernel_rfl) (by kernel_rfl) (by kernel_rfl) (by kernel_rfl) rfl ?_ (by first | exact fun _ _ _ h => h | exact fun _ _ _ h => hQ2 _ _ _ _ _ h) ?_
  rotate_left
  · intro W hSW
    simp only [glA, glB, glC]
    (try dsimp only at hSW)
    go_simp
    with_reducible rfl
  (try simp only [glA, glB, glC, Act.put, glD, glE, glF])
  refine wpAnyJ_take 13 (v := ?_) (by first | exact hF | exact wideFn) (hs3) rfl (by kernel_rfl) (by kernel_rfl) (by kernel_rfl) (by kernel_rfl) rfl ?_ (by first | exact fun _ _ _ h => h | exact fun _ _ _ h => hQ2 _ _ _ _ _ h) ?_
  rotate_left
  · intro W hSW
    simp only [glA, glB, glC]
    (try dsimp only at hSW)
    go_simp
    with_reducible rfl
  (try simp only [glA, glB, glC, Act.put, glD, glE, glF])
  refine wpAnyJ_take 14 (v := ?_) (by first | exact hF | exact wideFn) (hs3) rfl (by kernel_rfl) (by kernel_rfl) (by kernel_rfl) (by kernel_rfl) rfl ?_ (by first | exact fun _ _ _ h => h | exact fun _ _ _ h => hQ2 _ _ _ _ _ h) ?_
  rotate_left
  · intro W hSW
    simp only [glA, glB, glC]
    (try dsimp only at hSW)
    go_simp
    with_reducible rfl
  (try simp only [glA, glB, glC, Act.put, glD, glE, glF])
  refine wpAnyJ_take 15 (v := ?_) (by first | exact hF | exact wideFn) (hs3) rfl (by kernel_rfl) (by kernel_rfl) (by kernel_rfl) (by kernel_rfl) rfl ?_ (by first | exact fun _ _ _ h => h | exact fun _ _ _ h => hQ2 _ _ _ _ _ h) ?_
  rotate_left
  · intro W hSW
    simp only [glA, glB, glC]
    (try dsimp only at hSW)
    go_simp
    with_reducible rfl
  (try simp only [glA, glB, glC, Act.put, glD, glE, glF])
  refine wpAnyJ_done (by kernel_rfl) ?_
  have hs5 := hs3.2.2.1
  go_wp2_with fail
  refine (HT.out _ HBE.out).mono ?_
  rintro e w2 ⟨v2, rfl, hX2, hK2, hr2⟩
  have HX2 := hide hX2
  have E2 := hide ((HE1.out.ext HBE.out).kx hK2 HGX.out (fun e => by have := HOWN.out g e.symm; omega))
  have HNE : Hid (some g ≠ v2.ownBlock) := hide (fun e => by
    rcases hr2 with h | h
    · rw [h] at e
      have := HOWN.out g e.symm
      omega
    · have := h g e.symm
      have := HBE.out.size
      omega)
  have HK2 := hide (And.intro hK2 hr2)
  clear hX2 hK2 hr2 hs1 hs3 hs5
  obtain ⟨g0', g0, -⟩ := blk4 E2.out
  obtain ⟨x0, x1, x2, x3, x4, x5, x6⟩ := blk3 HX2.out.blk
  go_wp2_with fail
  go_ret
  have hWe : Below W.heap.size W we := HB0.out.trans (HBE.out.mono HB0.out.size)
  have q1 := KX.both (v := v) (v2 := v) (v3 := v2) (KX.of_below X _ hWe) (.inl rfl) HK2.out.1 HK2.out.2
  rw [hg] at q1
  exact ⟨_, rfl, HX2.out.move (t + 1), q1.1.set 1 _, q1.2⟩
end Go.Proofs.YtmpegkojencbjaaDoor
/- School, plain: the edits of two texts are in order, and fit. -/
namespace Go.Proofs.YtmpegkojencbjaaDoor
open Go Go.RowKit Go.Shelf
/-- an edit that fits the words a from word i on -/
def EdFit (a : List Wd) (i : Nat) (e : Ed) : Prop :=
  (i : Int) ≤ e.at_ ∧ e.at_ ≤ ((i + a.length : Nat) : Int) ∧ (e.ki = 3 ∨ ((e.ki = 1 ∨ e.ki = 2) ∧ e.at_ < ((i + a.length : Nat) : Int) ∧ a.getD (e.at_.toNat - i) noW = e.old))
theorem EdFit.next {x : Wd} {a : List Wd} {i : Nat} {e : Ed} (h : EdFit a (i + 1) e) : EdFit (x :: a) i e := by
  obtain ⟨h1, h2, h3⟩ := h
  refine ⟨by omega, by simp only [List.length_cons]; omega, h3.imp id (fun ⟨h4, h5, h6⟩ => ⟨h4, by simp only [List.length_cons]; omega, ?_⟩)⟩
  rw [← h6, show e.at_.toNat - i = (e.at_.toNat - (i + 1)) + 1 by omega]
  rfl
theorem fit_here (x : Wd) (a : List Wd) (i : Nat) (k : Int) (hk : k = 1 ∨ k = 2) (new : Wd) : EdFit (x :: a) i ⟨k, i, x, new⟩ := by
  refine ⟨Int.le_refl _, by simp only [List.length_cons]; omega, .inr ⟨hk, by simp only [List.length_cons]; omega, ?_⟩⟩
  show (x :: a).getD ((i : Int).toNat - i) noW = x
  rw [show (i : Int).toNat - i = 0 by omega]; rfl
theorem alL_fit : ∀ (a : List Wd) (i : Nat) (b : List Wd), ∀ e ∈ alL a i b, EdFit a i e
  | [], i, b => fun e he => by
    rw [alL_nil] at he
    obtain ⟨y, -, rfl⟩ := List.mem_map.1 he
    exact ⟨Int.le_refl _, by simp, .inl rfl⟩
  | x :: a, i, [] => fun e he => by
    rw [alL_end] at he
    rcases List.mem_cons.1 he with rfl | h
    · exact fit_here x a i 2 (.inr rfl) _
    · exact (alL_fit a (i + 1) [] e h).next
  | x :: a, i, y :: b => fun e he => by
    rw [alL_cons] at he
    by_cases e0 : x = y
    · rw [if_pos e0] at he; exact (alL_fit a (i + 1) b e he).next
    · rw [if_neg e0] at he
      by_cases e1 : dsL (x :: a) (y :: b) = 1 + dsL a b
      · rw [if_pos e1] at he
        rcases List.mem_cons.1 he with rfl | h
        · exact fit_here x a i 1 (.inl rfl) _
        · exact (alL_fit a (i + 1) b e h).next
      · rw [if_neg e1] at he
        by_cases e2 : dsL (x :: a) (y :: b) = 1 + dsL a (y :: b)
        · rw [if_pos e2] at he
          rcases List.mem_cons.1 he with rfl | h
          · exact fit_here x a i 2 (.inr rfl) _
          · exact (alL_fit a (i + 1) (y :: b) e h).next
        · rw [if_neg e2] at he
          rcases List.mem_cons.1 he with rfl | h
          · exact ⟨Int.le_refl _, by simp only [List.length_cons]; omega, .inl rfl⟩
          · exact alL_fit (x :: a) i b e h
theorem plL_cons (e : Ed) (l : List Ed) (q : Nat) : plL (e :: l) q = if plq e = q then e :: plL l q else plL l q := by
  unfold plL
  rw [List.filter_cons]
  by_cases h : plq e = q
  · rw [if_pos h]; simp [h]
  · rw [if_neg h]; simp [h]
/-- behind word i no edit of word i -/
theorem plL_none {a : List Wd} {i : Nat} {l : List Ed} (h : ∀ e ∈ l, EdFit a (i + 1) e) : plL l (i * 2 + 1) = [] := by
  unfold plL
  rw [List.filter_eq_nil_iff]
  intro e he
  have h1 := (h e he).1
  have h2 : ¬ plq e = i * 2 + 1 := by
    unfold plq
    split <;> omega
  simpa using h2
theorem plq_word (i : Nat) (k : Int) (hk : k = 1 ∨ k = 2) (o n : Wd) : plq ⟨k, i, o, n⟩ = i * 2 + 1 := by
  unfold plq
  rcases hk with rfl | rfl <;> simp
theorem plq_add (i : Nat) (o n : Wd) : plq ⟨3, i, o, n⟩ = i * 2 := by
  unfold plq
  simp
theorem one_head {x : Wd} {a : List Wd} {i q : Nat} {k : Int} (hk : k = 1 ∨ k = 2) {n : Wd} {l : List Ed} (h : ∀ e ∈ l, EdFit a (i + 1) e) (ih : (plL l (q * 2 + 1)).length ≤ 1) : (plL (⟨k, i, x, n⟩ :: l) (q * 2 + 1)).length ≤ 1 := by
  rw [plL_cons, plq_word i k hk]
  by_cases e : i * 2 + 1 = q * 2 + 1
  · obtain rfl : i = q := by omega
    rw [if_pos rfl, plL_none h]
    exact Nat.le_refl _
  · rw [if_neg e]; exact ih
/-- at most one edit of each word -/
theorem alL_one : ∀ (a : List Wd) (i : Nat) (b : List Wd) (q : Nat), (plL (alL a i b) (q * 2 + 1)).length ≤ 1
  | [], i, b, q => by
    have h : plL (alL [] i b) (q * 2 + 1) = [] := by
      unfold plL
      rw [List.filter_eq_nil_iff]
      intro e he
      rw [alL_nil] at he
      obtain ⟨y, -, rfl⟩ := List.mem_map.1 he
      rw [plq_add]
      have : ¬ i * 2 = q * 2 + 1 := by omega
      simpa using this
    rw [h]; exact Nat.zero_le _
  | x :: a, i, [], q => by
    rw [alL_end]
    exact one_head (.inr rfl) (alL_fit a (i + 1) []) (alL_one a (i + 1) [] q)
  | x :: a, i, y :: b, q => by
    rw [alL_cons]
    by_cases e0 : x = y
    · rw [if_pos e0]; exact alL_one a (i + 1) b q
    · rw [if_neg e0]
      by_cases e1 : dsL (x :: a) (y :: b) = 1 + dsL a b
      · rw [if_pos e1]; exact one_head (.inl rfl) (alL_fit a (i + 1) b) (alL_one a (i + 1) b q)
      · rw [if_neg e1]
        by_cases e2 : dsL (x :: a) (y :: b) = 1 + dsL a (y :: b)
        · rw [if_pos e2]; exact one_head (.inr rfl) (alL_fit a (i + 1) (y :: b)) (alL_one a (i + 1) (y :: b) q)
        · rw [if_neg e2, plL_cons, plq_add, if_neg (by omega)]
          exact alL_one (x :: a) i b q
end Go.Proofs.YtmpegkojencbjaaDoor
/- School: what Merge keeps apart. -/
namespace Go.Proofs.YtmpegkojencbjaaDoor
open Go Go.RowKit Go.Shelf
set_option maxHeartbeats 2000000
set_option maxRecDepth 100000
/-- three texts that are listed -/
theorem three_texts (A B C : Option Addr) (c d f : Nat) (a b e : List Wd) (w : World) (ha : SzOk a) (hb : SzOk b) (he : SzOk e) (hA : SR w w.heap.size A a) (hB : SR w w.heap.size B b) (hC : SR w w.heap.size C e) :
    TxR (w.alloc (.cells #[.slice A a.length c, .slice B b.length d, .slice C e.length f] 22)) (w.alloc (.cells #[.slice A a.length c, .slice B b.length d, .slice C e.length f] 22)).heap.size (some ⟨w.heap.size, 0, none⟩) 3 (fun k => if k = 0 then A else if k = 1 then B else C) (fun k => if k = 0 then c else if k = 1 then d else f) (fun k => if k = 0 then a else if k = 1 then b else e) := by
  have hB0 : Below w.heap.size w (w.alloc (.cells #[.slice A a.length c, .slice B b.length d, .slice C e.length f] 22)) := (Below.refl _ _).alloc (Nat.le_refl _) (.cells #[.slice A a.length c, .slice B b.length d, .slice C e.length f] 22)
  have hN := Blk.new w 22 #[.slice A a.length c, .slice B b.length d, .slice C e.length f]
  have hsz := hB0.size
  refine ⟨fun _ => ⟨w.heap.size, 0, rfl, by simp, fun k i hk hi => ?_⟩, fun k hk => ?_⟩
  · rcases (by omega : k = 0 ∨ k = 1 ∨ k = 2) with rfl | rfl | rfl <;> rcases (by omega : i = 0) with rfl
    · rw [hN.cell]; rfl
    · rw [hN.cell]; rfl
    · rw [hN.cell]; rfl
  · rcases (by omega : k = 0 ∨ k = 1 ∨ k = 2) with rfl | rfl | rfl
    · exact ⟨ha, (hA.below hB0 (Nat.le_refl _)).more hsz⟩
    · exact ⟨hb, (hB.below hB0 (Nat.le_refl _)).more hsz⟩
    · exact ⟨he, (hC.below hB0 (Nat.le_refl _)).more hsz⟩
/-- own lists of different types lie apart -/
theorem own_own_ne {w : World} {b1 b2 : Nat} {e1 e2 : TypeId} {s1 s2 n1 n2 : Nat} {v1 v2 : Value} {x1 x2 : List Value} (h1 : w.ownsRow b1 e1 s1 v1 n1 x1) (h2 : w.ownsRow b2 e2 s2 v2 n2 x2) (hne : e1 ≠ e2) :
    v1.ownBlock = none ∨ v1.ownBlock ≠ v2.ownBlock := by
  rcases h2.2 with ⟨rfl, -⟩ | ⟨g, cap, cur, rfl, -, hg, -⟩
  · cases hv : v1.ownBlock with
    | none => exact .inl rfl
    | some k => exact .inr (by simp [Value.ownBlock])
  · refine .inr (fun e => own_blk_ne h1 (g := g) (t := e2) (cs := cur) hg hne ?_)
    rw [e]; rfl
/-- an own list stays where an editor writes -/
theorem own_kx {w w' : World} {X : Nat} {row : Option Nat} {b n s : Nat} {t : TypeId} {v : Value} {xs : List Value} (h : w.ownsRow b t s v n xs) (hk : KX w w' X row) (h1 : v.ownBlock ≠ some X) (h2 : v.ownBlock = none ∨ v.ownBlock ≠ row) : w'.ownsRow b t s v n xs := by
  refine ⟨h.1, ?_⟩
  rcases h.2 with ⟨rfl, h0⟩ | ⟨g, cap, cur, rfl, hb, hg, h3⟩
  · exact .inl ⟨rfl, h0⟩
  · refine .inr ⟨g, cap, cur, rfl, hb, ?_, h3⟩
    have hlt := (World.ownsRow.lt h g rfl).2
    rw [hk.block g hlt (fun e => h1 (by rw [e]; rfl)) ?_]
    · exact hg
    · rcases h2 with h2 | h2
      · cases h2
      · exact h2
theorem PL.kx {w W W' : World} {D n : Nat} {v : Nat → Value} {f : Nat → List Ed} {X : Nat} {row : Option Nat} {A : Option Addr} {c : Nat} {a : List Wd} {i : Nat} {u : Value} {l : List Wd} {w0 : World} (h : PL w W D n v f) (hX : EX w0 W X A c a i u l) (hk : KX W W' X u.ownBlock) (hw : w.heap.size ≤ X) (hw2 : w.heap.size ≤ w0.heap.size) : PL w W' D n v f := by
  have hD : D ≠ X := h.blk.ne_ hX.blk (by decide)
  have hDu : some D ≠ u.ownBlock := fun e => own_blk_ne hX.own h.blk (by decide) e.symm
  refine ⟨⟨hk.os.trans h.below.os, hk.tape.trans h.below.tape, hk.output.trans h.below.output, Nat.le_trans h.below.size hk.size, fun k hk1 => ?_⟩, h.lo, h.blk.kx hk hD hDu, fun q hq => ?_, h.ap⟩
  · refine (hk.block k (Nat.lt_of_lt_of_le hk1 h.below.size) (by omega) (fun e => ?_)).trans (h.below.block k hk1)
    have := (World.ownsRow.lt hX.own k e.symm).1
    omega
  · exact own_kx (h.own q hq) hk (own_blk_ne (h.own q hq) hX.blk (by decide)) (own_own_ne (h.own q hq) hX.own (by decide))
theorem OwnE.kx {W W' : World} {n0 : Nat} {v : Value} {m : List Ed} {X : Nat} {A : Option Addr} {c : Nat} {a : List Wd} {i : Nat} {u : Value} {l : List Wd} {w0 : World} (h : OwnE W n0 v m) (hX : EX w0 W X A c a i u l) (hk : KX W W' X u.ownBlock) : OwnE W' n0 v m :=
  own_kx h hk (own_blk_ne h hX.blk (by decide)) (own_own_ne h hX.own (by decide))
end Go.Proofs.YtmpegkojencbjaaDoor
/- School, plain: what Merge's editor does; every edit that fits is carried out. -/
namespace Go.Proofs.YtmpegkojencbjaaDoor
open Go Go.RowKit Go.Shelf
set_option maxHeartbeats 2000000
set_option maxRecDepth 100000
/-- an edit of the words a that the editor carries out -/
structure EdOk (a : List Wd) (e : Ed) : Prop where
  lo : 0 ≤ e.at_
  hi : e.at_ ≤ a.length
  ki : e.ki = 3 ∨ ((e.ki = 1 ∨ e.ki = 2) ∧ e.at_ < a.length ∧ a.getD e.at_.toNat noW = e.old)
theorem EdFit.ok {a : List Wd} {e : Ed} (h : EdFit a 0 e) : EdOk a e := by
  obtain ⟨h1, h2, h3⟩ := h
  refine ⟨by omega, by omega, h3.imp id (fun ⟨h4, h5, h6⟩ => ⟨h4, by omega, by simpa using h6⟩)⟩
theorem edit_fits (w W : World) (X : Nat) (A : Option Addr) (c : Nat) (a : List Wd) (i : Nat) (v : Value) (l : List Wd) (e : Ed) (hX : EX w W X A c a i v l) (hA : SR w w.heap.size A a) (he : EdOk a e) (hit : i ≤ e.at_.toNat) (hac : a.length ≤ c) (hc : c ≤ maxLen) (hl : l.length + a.length ≤ 100000) :
    Calls Tryd.prog 56 #[.pointer (some ⟨X, 0, none⟩), .agg #[.int .i64 e.ki, .int .i64 e.at_, .string e.old, .string e.new]] W (EdPost w W X A c a (edI i e) v (edL a i e l)) := by
  obtain ⟨ki, at_, old, new⟩ := e
  obtain ⟨h0, h1, h3⟩ := he
  dsimp only at h0 h1 h3 hit ⊢
  obtain ⟨t, rfl⟩ : ∃ t : Nat, at_ = (t : Int) := ⟨at_.toNat, by omega⟩
  have ht : ((t : Int)).toNat = t := by omega
  rw [ht] at h3 hit
  unfold edI edL
  dsimp only
  rw [ht]
  by_cases k3 : ki = 3
  · subst k3
    rw [if_pos rfl, if_neg (by decide)]
    exact edit_add w W X A c a i v l t old new hX hA hit (by omega) hac hc (by omega)
  · obtain ⟨h4, h5, h6⟩ := h3.resolve_left k3
    rw [if_neg k3]
    by_cases k2 : ki = 2
    · rw [if_pos k2, List.append_nil]
      exact edit_drop w W X A c a i v l ki t old new hX hA hit (by omega) k3 h6 k2 hac hc (by omega)
    · rw [if_neg k2]
      exact edit_swap w W X A c a i v l ki t old new hX hA hit (by omega) k3 h6 k2 hac hc (by omega)
theorem edL_len (a : List Wd) (i : Nat) (e : Ed) (l : List Wd) : (edL a i e l).length ≤ l.length + (a.length + 1) := by
  unfold edL takeL
  rw [List.length_append, List.length_append, List.length_take, List.length_drop]
  split <;> simp only [List.length_nil, List.length_cons] <;> omega
/-- edits one after another -/
def edsF (a : List Wd) (s : Nat × List Wd) : List Ed → Nat × List Wd
  | [] => s
  | e :: es => edsF a (edI s.1 e, edL a s.1 e s.2) es
theorem edsF_append (a : List Wd) (s : Nat × List Wd) (es fs : List Ed) : edsF a s (es ++ fs) = edsF a (edsF a s es) fs := by
  induction es generalizing s with
  | nil => rfl
  | cons e es ih => exact ih _
theorem edsF_len (a : List Wd) (es : List Ed) : ∀ s : Nat × List Wd, (edsF a s es).2.length ≤ s.2.length + es.length * (a.length + 1) := by
  induction es with
  | nil => intro s; simp [edsF]
  | cons e es ih =>
    intro s
    have h1 := ih (edI s.1 e, edL a s.1 e s.2)
    have h2 := edL_len a s.1 e s.2
    show (edsF a (edI s.1 e, edL a s.1 e s.2) es).2.length ≤ _
    have h3 : (es.length + 1) * (a.length + 1) = es.length * (a.length + 1) + (a.length + 1) := Nat.succ_mul _ _
    rw [List.length_cons, h3]
    dsimp only at h1
    omega
theorem edsF_take (a : List Wd) (s : Nat × List Wd) (es : List Ed) {k : Nat} (hk : k < es.length) {e : Ed} (he : es.getD k e0 = e) :
    edsF a s (es.take (k + 1)) = (edI (edsF a s (es.take k)).1 e, edL a (edsF a s (es.take k)).1 e (edsF a s (es.take k)).2) := by
  have h1 : es.take (k + 1) = es.take k ++ [e] := by
    rw [List.take_succ_eq_append_getElem hk]
    rw [List.getD_eq_getElem?_getD, List.getElem?_eq_getElem hk] at he
    rw [← he]; rfl
  rw [h1, edsF_append]
  rfl
theorem plL_mem {l : List Ed} {q : Nat} {e : Ed} (h : e ∈ plL l q) : e ∈ l ∧ plq e = q := by
  unfold plL at h
  rw [List.mem_filter] at h
  exact ⟨h.1, of_decide_eq_true h.2⟩
/-- what both say at place k -/
def mgE (la lb : List Ed) (k : Nat) : List Ed := jnL (plL la (k * 2)) (plL lb (k * 2)) ++ jnL (plL la (k * 2 + 1)) (plL lb (k * 2 + 1))
def mgOk (la lb : List Ed) (k : Nat) : Bool := jnB (plL la (k * 2)) (plL lb (k * 2)) && jnB (plL la (k * 2 + 1)) (plL lb (k * 2 + 1))
/-- the editor behind k places -/
def mgF (a : List Wd) (la lb : List Ed) : Nat → Nat × List Wd
  | 0 => (0, [])
  | k + 1 => edsF a (mgF a la lb k) (mgE la lb k)
/-- the first place at which they clash, of n -/
def mgC (la lb : List Ed) : Nat → Option Nat
  | 0 => none
  | n + 1 => match mgC la lb n with | some k => some k | none => if mgOk la lb n then none else some n
theorem mgC_succ (la lb : List Ed) (n : Nat) (h : mgC la lb n = none) : mgC la lb (n + 1) = if mgOk la lb n then none else some n := by
  show (match mgC la lb n with | some k => some k | none => if mgOk la lb n then none else some n) = _
  rw [h]
theorem mgC_some (la lb : List Ed) {k : Nat} : ∀ n m, n ≤ m → mgC la lb n = some k → mgC la lb m = some k := by
  intro n m h
  induction h with
  | refl => exact id
  | step _ ih =>
    intro h1
    show (match mgC la lb _ with | some k => some k | none => _) = _
    rw [ih h1]
section
variable {a : List Wd} {la lb : List Ed} (ha : ∀ e ∈ la, EdFit a 0 e) (hb : ∀ e ∈ lb, EdFit a 0 e)
include ha hb
theorem jn_mem {q : Nat} {e : Ed} (h : e ∈ jnL (plL la q) (plL lb q)) : EdOk a e ∧ plq e = q := by
  unfold jnL at h
  split at h
  · have := plL_mem h; exact ⟨(hb e this.1).ok, this.2⟩
  · have := plL_mem h; exact ⟨(ha e this.1).ok, this.2⟩
omit ha hb in
theorem plq_even {e : Ed} {k : Nat} (he : EdOk a e) (h : plq e = k * 2) : e.ki = 3 ∧ e.at_.toNat = k := by
  unfold plq at h
  have := he.lo
  split at h
  · exact ⟨by assumption, by omega⟩
  · omega
omit ha hb in
theorem plq_odd {e : Ed} {k : Nat} (he : EdOk a e) (h : plq e = k * 2 + 1) : e.ki ≠ 3 ∧ e.at_.toNat = k := by
  unfold plq at h
  have := he.lo
  split at h
  · omega
  · exact ⟨by assumption, by omega⟩
theorem mgE_ok {k : Nat} {e : Ed} (h : e ∈ mgE la lb k) : EdOk a e ∧ e.at_.toNat = k := by
  unfold mgE at h
  rcases List.mem_append.1 h with h | h
  · have h1 := jn_mem ha hb h
    exact ⟨h1.1, (plq_even h1.1 h1.2).2⟩
  · have h1 := jn_mem ha hb h
    exact ⟨h1.1, (plq_odd h1.1 h1.2).2⟩
omit ha hb in
/-- words that are put ahead of word k: the editor's place is at most k -/
theorem adds_place (k : Nat) : ∀ (es : List Ed) (s : Nat × List Wd), (∀ e ∈ es, e.ki = 3 ∧ e.at_.toNat = k) → s.1 ≤ k → (edsF a s es).1 ≤ k
  | [], s, _, hs => hs
  | e :: es, s, h, hs => by
    refine adds_place k es _ (fun e he => h e (List.mem_cons_of_mem _ he)) ?_
    obtain ⟨h1, h2⟩ := h e List.mem_cons_self
    show edI s.1 e ≤ k
    unfold edI
    rw [if_pos h1, h2]
    exact Nat.le_refl _
theorem mg_place (k j : Nat) (s : Nat × List Wd) (hs : s.1 ≤ k) (h1 : ∀ q, (plL la (q * 2 + 1)).length ≤ 1) (h2 : ∀ q, (plL lb (q * 2 + 1)).length ≤ 1) (hj : j < (mgE la lb k).length) : (edsF a s ((mgE la lb k).take j)).1 ≤ k := by
  have hw : (jnL (plL la (k * 2 + 1)) (plL lb (k * 2 + 1))).length ≤ 1 := by
    unfold jnL; split
    · exact h2 k
    · exact h1 k
  have hj2 : j ≤ (jnL (plL la (k * 2)) (plL lb (k * 2))).length := by
    unfold mgE at hj
    rw [List.length_append] at hj
    omega
  unfold mgE
  rw [List.take_append_of_le_length hj2]
  refine adds_place k _ s (fun e he => ?_) hs
  have h3 := jn_mem ha hb (List.mem_of_mem_take he)
  exact plq_even h3.1 h3.2
theorem mg_next (k : Nat) (s : Nat × List Wd) (hs : s.1 ≤ k) (h1 : ∀ q, (plL la (q * 2 + 1)).length ≤ 1) (h2 : ∀ q, (plL lb (q * 2 + 1)).length ≤ 1) : (edsF a s (mgE la lb k)).1 ≤ k + 1 := by
  obtain ⟨es, hes⟩ : ∃ es, mgE la lb k = es := ⟨_, rfl⟩
  rcases Nat.eq_zero_or_pos es.length with h | h
  · rw [hes, List.length_eq_zero_iff.1 h]
    show s.1 ≤ k + 1
    omega
  · have h3 := edsF_take a s es (k := es.length - 1) (by omega) rfl
    rw [Nat.sub_add_cancel h, List.take_length] at h3
    rw [hes, h3]
    have hm : es.getD (es.length - 1) e0 ∈ mgE la lb k := by
      rw [hes, List.getD_eq_getElem?_getD, List.getElem?_eq_getElem (by omega)]
      exact List.getElem_mem _
    have h4 := (mgE_ok ha hb hm).2
    show edI (edsF a s (List.take (es.length - 1) es)).1 (es.getD (es.length - 1) e0) ≤ k + 1
    unfold edI
    split <;> omega
theorem mgF_place (h1 : ∀ q, (plL la (q * 2 + 1)).length ≤ 1) (h2 : ∀ q, (plL lb (q * 2 + 1)).length ≤ 1) : ∀ k, (mgF a la lb k).1 ≤ k
  | 0 => Nat.le_refl _
  | k + 1 => mg_next ha hb k _ (mgF_place h1 h2 k) h1 h2
/-- behind the last place: no word is left out -/
theorem mgF_end (h1 : ∀ q, (plL la (q * 2 + 1)).length ≤ 1) (h2 : ∀ q, (plL lb (q * 2 + 1)).length ≤ 1) : (mgF a la lb (a.length + 1)).1 ≤ a.length := by
  refine adds_place a.length (mgE la lb a.length) _ (fun e he => ?_) (mgF_place ha hb h1 h2 a.length)
  have h3 := mgE_ok ha hb he
  refine ⟨?_, h3.2⟩
  rcases h3.1.ki with h4 | ⟨-, h5, -⟩
  · exact h4
  · have := h3.1.lo
    have := h3.2
    omega
end
theorem jnL_len (l m : List Ed) {n : Nat} (hl : l.length ≤ n) (hm : m.length ≤ n) : (jnL l m).length ≤ n := by
  unfold jnL; split <;> assumption
theorem mgE_len (la lb : List Ed) (k : Nat) {n : Nat} (hl : la.length ≤ n) (hm : lb.length ≤ n) : (mgE la lb k).length ≤ 2 * n := by
  unfold mgE
  rw [List.length_append]
  have h1 := jnL_len (plL la (k * 2)) (plL lb (k * 2)) (n := n) (by have := plL_len la (k * 2); omega) (by have := plL_len lb (k * 2); omega)
  have h2 := jnL_len (plL la (k * 2 + 1)) (plL lb (k * 2 + 1)) (n := n) (by have := plL_len la (k * 2 + 1); omega) (by have := plL_len lb (k * 2 + 1); omega)
  omega
theorem mgF_len (a : List Wd) (la lb : List Ed) (ha : a.length ≤ 20) (hl : la.length ≤ 40) (hm : lb.length ≤ 40) : ∀ k, (mgF a la lb k).2.length ≤ k * 1680
  | 0 => by simp [mgF]
  | k + 1 => by
    have h1 := edsF_len a (mgE la lb k) (mgF a la lb k)
    have h2 := mgE_len la lb k hl hm
    have h3 := mgF_len a la lb ha hl hm k
    have h4 : (mgE la lb k).length * (a.length + 1) ≤ 80 * 21 := Nat.mul_le_mul (by omega) (by omega)
    show (edsF a (mgF a la lb k) (mgE la lb k)).2.length ≤ _
    omega
theorem eds_len (a : List Wd) (la lb : List Ed) (ha : a.length ≤ 20) (hl : la.length ≤ 40) (hm : lb.length ≤ 40) (k j : Nat) : (edsF a (mgF a la lb k) ((mgE la lb k).take j)).2.length ≤ (k + 1) * 1680 := by
  have h1 := edsF_len a ((mgE la lb k).take j) (mgF a la lb k)
  have h2 := mgE_len la lb k hl hm
  have h3 := mgF_len a la lb ha hl hm k
  have h5 : ((mgE la lb k).take j).length ≤ 80 := by rw [List.length_take]; omega
  have h4 : ((mgE la lb k).take j).length * (a.length + 1) ≤ 80 * 21 := Nat.mul_le_mul h5 (by omega)
  omega
/-- what Merge returns for texts with these edits -/
def mgX (base : List Wd) (la lb : List Ed) : List Wd × Int × Int :=
  match mgC la lb (base.length + 1) with
  | some k => ([], (k : Int), 110)
  | none =>
    let s := mgF base la lb (base.length + 1)
    if (takeL base s.1 base.length s.2).length ≤ 20 then (takeL base s.1 base.length s.2, 0, 0) else ([], 0, 5)
theorem mgX_clash {base : List Wd} {la lb : List Ed} {k : Nat} (h : mgC la lb (base.length + 1) = some k) : mgX base la lb = ([], (k : Int), 110) := by
  unfold mgX; rw [h]
theorem mgX_ok {base : List Wd} {la lb : List Ed} {s : Nat × List Wd} {l : List Wd} (h : mgC la lb (base.length + 1) = none) (hs : mgF base la lb (base.length + 1) = s) (hl : takeL base s.1 base.length s.2 = l) (h2 : l.length ≤ 20) : mgX base la lb = (l, 0, 0) := by
  unfold mgX; rw [h]; subst hs; subst hl; dsimp only; rw [if_pos h2]
theorem mgX_long {base : List Wd} {la lb : List Ed} {s : Nat × List Wd} {l : List Wd} (h : mgC la lb (base.length + 1) = none) (hs : mgF base la lb (base.length + 1) = s) (hl : takeL base s.1 base.length s.2 = l) (h2 : ¬ l.length ≤ 20) : mgX base la lb = ([], 0, 5) := by
  unfold mgX; rw [h]; subst hs; subst hl; dsimp only; rw [if_neg h2]
/-- what Merge returns -/
def mgR (base a b : List Wd) : List Wd × Int × Int :=
  if textB base && textB a && textB b then mgX base (alL base 0 a) (alL base 0 b) else ([], 0, 2)
end Go.Proofs.YtmpegkojencbjaaDoor
/- School: Merge, walked. -/
namespace Go.Proofs.YtmpegkojencbjaaDoor
open List renaming getElem_toArray → glA, getElem_cons_zero → glB, getElem_cons_succ → glC, setIfInBounds_toArray → glD, set_cons_zero → glE, set_cons_succ → glF
open Go Go.RowKit Go.Shelf
set_option maxHeartbeats 8000000
set_option maxRecDepth 100000
theorem PL.low {w w0 W : World} {D n : Nat} {v : Nat → Value} {f : Nat → List Ed} (h : PL w W D n v f) (hb : Below w0.heap.size w0 w) : PL w0 W D n v f :=
  ⟨hb.trans (h.below.mono hb.size), Nat.le_trans hb.size h.lo, h.blk, h.own, h.ap⟩
theorem OwnE.edS {W : World} {n0 : Nat} {A : Option Addr} {n c : Nat} {l : List Ed} (h : OwnE W n0 (.slice A n c) l) : n = l.length ∧ EdR W W.heap.size A l := by
  obtain ⟨A', c', e, h2⟩ := h.edR
  injection e with e1 e2 e3
  subst e1
  exact ⟨e2, h2⟩
/-- two lists of edits that are listed -/
theorem two_edits (A B : Option Addr) (c d : Nat) (l m : List Ed) (w : World) :
    ER (w.alloc (.cells #[.slice A l.length c, .slice B m.length d] 26)) (w.alloc (.cells #[.slice A l.length c, .slice B m.length d] 26)).heap.size 1 (some ⟨w.heap.size, 0, none⟩) 2 fun k _ => .slice (if k = 0 then A else B) (if k = 0 then l else if k = 1 then m else []).length (if k = 0 then c else d) := by
  have hN := Blk.new w 26 #[.slice A l.length c, .slice B m.length d]
  refine fun _ => ⟨w.heap.size, 0, rfl, by simp, fun k i hk hi => ?_⟩
  rcases (by omega : k = 0 ∨ k = 1) with rfl | rfl <;> rcases (by omega : i = 0) with rfl
  · rw [hN.cell]; rfl
  · rw [hN.cell]; rfl
theorem concat_two (A B : Option Addr) (c d : Nat) (l m : List Ed) (w : World) (hl : l.length ≤ 100) (hm : m.length ≤ 100) (hA : EdR w w.heap.size A l) (hB : EdR w w.heap.size B m) :
    Calls Tryd.prog 55 #[.slice (some ⟨w.heap.size, 0, none⟩) 2 2] (w.alloc (.cells #[.slice A l.length c, .slice B m.length d] 26)) fun e w' => ∃ v, e = .returned v ∧ OwnE w' w.heap.size v (l ++ m) ∧ Below w.heap.size w w' := by
  have hB0 : Below w.heap.size w (w.alloc (.cells #[.slice A l.length c, .slice B m.length d] 26)) := (Below.refl _ _).alloc (Nat.le_refl _) _
  have h := concatE_any (some ⟨w.heap.size, 0, none⟩) 2 2 _ _ (fun k => if k = 0 then l else if k = 1 then m else []) (w.alloc (.cells #[.slice A l.length c, .slice B m.length d] 26)) (by omega)
    (fun k => by split; exact hl; split; exact hm; exact Nat.zero_le _) (two_edits A B c d l m w) (fun k hk => by
      rcases (by omega : k = 0 ∨ k = 1) with rfl | rfl
      · exact hA.ext hB0
      · exact hB.ext hB0)
  refine h.mono ?_
  rintro e w' ⟨v, rfl, ho, hb⟩
  refine ⟨v, rfl, ?_, hB0.trans (hb.mono hB0.size)⟩
  have := ho.low hB0.size
  exact this
def MgPost (w : World) (r : List Wd × Int × Int) (e : Ending) (w' : World) : Prop :=
  ∃ v, e = .returned (.tuple #[v, .int .i64 r.2.1, .int .i64 r.2.2]) ∧ OwnS w' w.heap.size v r.1 ∧ Below w.heap.size w w'
theorem merge_not (A B C : Option Addr) (c d f : Nat) (base a b : List Wd) (w : World) (h0 : SzOk base) (ha : SzOk a) (hb : SzOk b) (hA : SR w w.heap.size A base) (hB : SR w w.heap.size B a) (hC : SR w w.heap.size C b) (ht : (textB base && textB a && textB b) = false) :
    Calls Tryd.prog 22 #[.slice A base.length c, .slice B a.length d, .slice C b.length f] w (MgPost w ([], 0, 2)) := by
  have hB0 : Below w.heap.size w (w.alloc (.cells #[.slice A base.length c, .slice B a.length d, .slice C b.length f] 22)) := (Below.refl _ _).alloc (Nat.le_refl _) (.cells #[.slice A base.length c, .slice B a.length d, .slice C b.length f] 22)
  have HT := hide (isText_any (some ⟨w.heap.size, 0, none⟩) 3 3 _ _ _ (w.alloc (.cells #[.slice A base.length c, .slice B a.length d, .slice C b.length f] 22)) (by unfold maxLen; omega) (three_texts A B C c d f base a b w h0 ha hb hA hB hC))
  have e0 : (!anyTo (fun k => !textB (if k = 0 then base else if k = 1 then a else b)) 3) = (textB base && textB a && textB b) := by
    show (!(((false || !textB base) || !textB a) || !textB b)) = _
    cases textB base <;> cases textB a <;> cases textB b <;> rfl
  rw [e0, ht] at HT
  have HB0 := hide hB0
  unfold MgPost
  clear hA hB hC h0 ha hb hB0 e0 ht
  go_enter Tryd.func22, Tryd.ntmps22
  go_wp2_with fail
  refine HT.out.mono ?_
  rintro e w2 ⟨rfl, hb2⟩
  go_upto_region 2 with fail
  go_wp2_with fail
  go_ret3
  exact ⟨_, rfl, OwnS.nil _ _, HB0.out.trans (hb2.mono HB0.out.size)⟩
/-- the editor and both lists of places -/
structure MgI (w W : World) (X Da Db : Nat) (A : Option Addr) (c : Nat) (base : List Wd) (la lb : List Ed) (va vb : Nat → Value) (s : Nat × List Wd) (v : Value) : Prop where
  ex : EX w W X A c base s.1 v s.2
  pa : PL w W Da (base.length + 1) va (plL la)
  pb : PL w W Db (base.length + 1) vb (plL lb)
section
variable {w W W' : World} {X Da Db : Nat} {A : Option Addr} {c : Nat} {base : List Wd} {la lb : List Ed} {va vb : Nat → Value} {s s' : Nat × List Wd} {v v' : Value}
theorem MgI.ext (h : MgI w W X Da Db A c base la lb va vb s v) (hb : Below W.heap.size W W') : MgI w W' X Da Db A c base la lb va vb s v := ⟨h.ex.ext hb, h.pa.ext hb, h.pb.ext hb⟩
theorem MgI.kx (h : MgI w W X Da Db A c base la lb va vb s v) (hX : EX w W' X A c base s'.1 v' s'.2) (hk : KX W W' X v.ownBlock) : MgI w W' X Da Db A c base la lb va vb s' v' :=
  ⟨hX, h.pa.kx (row := none) h.ex hk h.ex.lo (Nat.le_refl _), h.pb.kx (row := none) h.ex hk h.ex.lo (Nat.le_refl _)⟩
theorem PL.at_ {n q D : Nat} {u : Nat → Value} {f : Nat → List Ed} (h : PL w W D n u f) (hq : q < n * 2) {p : List Ed} (hp : f q = p) :
    ∃ A c, u q = .slice A p.length c ∧ W.cell? ⟨D, q, none⟩ = some (.slice A p.length c) ∧ EdR W W.heap.size A p := by
  obtain ⟨A, c, h1, h2⟩ := (h.own q hq).edR
  subst hp
  refine ⟨A, c, h1, ?_, h2⟩
  rw [h.blk.cell, rowV_get _ _ hq, h1]
end
theorem merge_go (A B C : Option Addr) (c d f : Nat) (base a b : List Wd) (la lb : List Ed) (w : World) (h0 : SzOk base) (ha : SzOk a) (hb : SzOk b) (hA : SR w w.heap.size A base) (hB : SR w w.heap.size B a) (hC : SR w w.heap.size C b) (hac : base.length ≤ c) (hc : c ≤ maxLen)
    (t0 : textB base = true) (ta : textB a = true) (tb : textB b = true) (hla : alL base 0 a = la) (hlb : alL base 0 b = lb) :
    Calls Tryd.prog 22 #[.slice A base.length c, .slice B a.length d, .slice C b.length f] w (MgPost w (mgX base la lb)) := by
  have hB0 : Below w.heap.size w (w.alloc (.cells #[.slice A base.length c, .slice B a.length d, .slice C b.length f] 22)) := (Below.refl _ _).alloc (Nat.le_refl _) (.cells #[.slice A base.length c, .slice B a.length d, .slice C b.length f] 22)
  have HT := hide (isText_any (some ⟨w.heap.size, 0, none⟩) 3 3 _ _ _ (w.alloc (.cells #[.slice A base.length c, .slice B a.length d, .slice C b.length f] 22)) (by unfold maxLen; omega) (three_texts A B C c d f base a b w h0 ha hb hA hB hC))
  have e0 : (!anyTo (fun k => !textB (if k = 0 then base else if k = 1 then a else b)) 3) = (textB base && textB a && textB b) := by
    show (!(((false || !textB base) || !textB a) || !textB b)) = _
    cases textB base <;> cases textB a <;> cases textB b <;> rfl
  rw [e0, t0, ta, tb] at HT
  have HB0 := hide hB0
  have z0 := textB_len t0
  have za := textB_len ta
  have zb := textB_len tb
  have ya : la.length ≤ 40 := by rw [← hla, alL_len]; have := dsL_le base a; omega
  have yb : lb.length ≤ 40 := by rw [← hlb, alL_len]; have := dsL_le base b; omega
  have FA : Hid (∀ e ∈ la, EdFit base 0 e) := hide (hla ▸ alL_fit base 0 a)
  have FB : Hid (∀ e ∈ lb, EdFit base 0 e) := hide (hlb ▸ alL_fit base 0 b)
  have OA : Hid (∀ q, (plL la (q * 2 + 1)).length ≤ 1) := hide (hla ▸ alL_one base 0 a)
  have OB : Hid (∀ q, (plL lb (q * 2 + 1)).length ≤ 1) := hide (hlb ▸ alL_one base 0 b)
  have HALa : Hid (∀ w2, Below w.heap.size w w2 → Calls Tryd.prog 50 #[.slice A base.length c, .slice B a.length d] w2 (AlignPost w2 base a)) := hide fun w2 h2 =>
    align_any A B c d base a w2 (by omega) (by omega) ((hA.below h2 (Nat.le_refl _)).more h2.size) ((hB.below h2 (Nat.le_refl _)).more h2.size)
  have HALb : Hid (∀ w2, Below w.heap.size w w2 → Calls Tryd.prog 50 #[.slice A base.length c, .slice C b.length f] w2 (AlignPost w2 base b)) := hide fun w2 h2 =>
    align_any A C c f base b w2 (by omega) (by omega) ((hA.below h2 (Nat.le_refl _)).more h2.size) ((hC.below h2 (Nat.le_refl _)).more h2.size)
  have HA := hide hA
  have HLA := hide hla
  have HLB := hide hlb
  have HAC := hide (And.intro hac hc)
  have HY := hide (And.intro ya yb)
  unfold MgPost
  clear hA hB hC h0 ha hb hB0 e0 hla hlb hac hc t0 ta tb ya yb
  obtain ⟨n, hn⟩ : ∃ n, base.length = n := ⟨_, rfl⟩
  have HN := hide hn
  rw [hn] at HT HALa HALb z0 HB0 ⊢
  clear hn
  obtain ⟨na, hna⟩ : ∃ n, a.length = n := ⟨_, rfl⟩
  obtain ⟨nb, hnb⟩ : ∃ n, b.length = n := ⟨_, rfl⟩
  rw [hna] at HT HALa za HB0 ⊢
  rw [hnb] at HT HALb zb HB0 ⊢
  clear hna hnb
  go_enter Tryd.func22, Tryd.ntmps22
  go_wp2_with fail
  refine HT.out.mono ?_
  rintro e w2 ⟨rfl, hb2⟩
  have H2 := hide (HB0.out.trans (hb2.mono HB0.out.size))
  clear hb2 HT HB0
  go_upto_region 4 with fail
  have HX : Hid (EX w (w2.alloc (.cells #[.slice A n c, .int .i64 0, .slice none 0 0] 92)) w2.heap.size A c base 0 (.slice none 0 0) []) := hide ⟨H2.out.alloc H2.out.size _, H2.out.size, by rw [HN.out]; exact Blk.new _ _ _, OwnS.nil _ _⟩
  have H3 := hide (H2.out.alloc H2.out.size (.cells #[.slice A n c, .int .i64 0, .slice none 0 0] 92))
  generalize (w2.alloc (.cells #[.slice A n c, .int .i64 0, .slice none 0 0] 92)) = w3 at HX H3 ⊢
  generalize w2.heap.size = X at HX ⊢
  go_wp2_with fail
  refine (HALb.out w3 H3.out).mono ?_
  rintro e w4 ⟨v4, rfl, ho4, hb4⟩
  obtain ⟨A4, c4, rfl, hE4⟩ := ho4.edR
  rw [HLB.out] at hE4 ⊢
  have H4 := hide (H3.out.trans (hb4.mono H3.out.size))
  have HX4 := hide (HX.out.ext hb4)
  have HP4 := hide (places_any A4 c4 n lb w4 (by omega) (by have := HY.out.2; omega) hE4 (fun e he => by have := (FB.out e he).ok; rw [← HN.out]; exact ⟨this.lo, this.hi⟩))
  clear HX hb4 ho4 hE4 H3
  go_wp2_with fail
  refine HP4.out.mono ?_
  rintro e w5 ⟨Db, vb, rfl, hPb⟩
  have H5 := hide (H4.out.trans (hPb.below.mono H4.out.size))
  have HX5 := hide (HX4.out.ext hPb.below)
  have HPB := hide (hPb.low H4.out)
  clear hPb HX4 HP4
  go_wp2_with fail
  refine (HALa.out w5 H5.out).mono ?_
  rintro e w6 ⟨v6, rfl, ho6, hb6⟩
  obtain ⟨A6, c6, rfl, hE6⟩ := ho6.edR
  rw [HLA.out] at hE6 ⊢
  have H6 := hide (H5.out.trans (hb6.mono H5.out.size))
  have HX6 := hide (HX5.out.ext hb6)
  have HPB6 := hide (HPB.out.ext hb6)
  have HP6 := hide (places_any A6 c6 n la w6 (by omega) (by have := HY.out.1; omega) hE6 (fun e he => by have := (FA.out e he).ok; rw [← HN.out]; exact ⟨this.lo, this.hi⟩))
  clear HX5 hb6 ho6 hE6 HPB
  go_wp2_with fail
  refine HP6.out.mono ?_
  rintro e w7 ⟨Da, va, rfl, hPa⟩
  have HM7 : Hid (MgI w w7 X Da Db A c base la lb va vb (mgF base la lb 0) (.slice none 0 0)) := hide ⟨HX6.out.ext hPa.below, by rw [HN.out]; exact hPa.low H6.out, by rw [HN.out]; exact HPB6.out.ext hPa.below⟩
  clear hPa HX6 HP6 HPB6 H6 H5 H4 H2 HALa HALb HLA HLB
  obtain ⟨N, hN⟩ : ∃ N, n + 1 = N := ⟨_, rfl⟩
  have HNN := hide hN
  have hN21 : N ≤ 21 := by omega
  rw [hN]
  clear hN
  go_upto_region 6 with fail
  go_loopw [41] (fun i wr => ∃ (k : Nat) (v : Value), k ≤ N ∧ i = .int .i64 k ∧ mgC la lb k = none ∧ Hid (MgI w wr X Da Db A c base la lb va vb (mgF base la lb k) v)) (fun i _ => N - (intOf i).toNat)
  case atStart => exact ⟨0, _, Nat.zero_le _, rfl, rfl, HM7⟩
  case round =>
    obtain ⟨k, v, hk, rfl, hmc, HM⟩ := hrel
    have HMC := hide hmc
    clear hmc HM7
    by_cases hlt : k < N
    · -- BEGIN1
      have hlt' : (k : Int) < (N : Int) := by omega
      have k0 : (0 : Int) ≤ (k : Int) := by omega
      have hk2 : k * 2 < (base.length + 1) * 2 := by rw [HN.out, HNN.out]; omega
      have hk3 : k * 2 + 1 < (base.length + 1) * 2 := by rw [HN.out, HNN.out]; omega
      obtain ⟨p1, hp1⟩ : ∃ p, plL la (k * 2) = p := ⟨_, rfl⟩
      obtain ⟨p2, hp2⟩ : ∃ p, plL la (k * 2 + 1) = p := ⟨_, rfl⟩
      obtain ⟨q1, hq1⟩ : ∃ p, plL lb (k * 2) = p := ⟨_, rfl⟩
      obtain ⟨q2, hq2⟩ : ∃ p, plL lb (k * 2 + 1) = p := ⟨_, rfl⟩
      obtain ⟨A1, c1, -, a1, r1⟩ := HM.out.pa.at_ hk2 hp1
      obtain ⟨A2, c2, -, a2, r2⟩ := HM.out.pa.at_ hk3 hp2
      obtain ⟨B1, d1, -, b1, s1⟩ := HM.out.pb.at_ hk2 hq1
      obtain ⟨B2, d2, -, b2, s2⟩ := HM.out.pb.at_ hk3 hq2
      have hpl : p1.length ≤ 40 ∧ p2.length ≤ 40 ∧ q1.length ≤ 40 ∧ q2.length ≤ 40 := by
        rw [← hp1, ← hp2, ← hq1, ← hq2]
        have h1 := plL_len la (k * 2)
        have h2 := plL_len la (k * 2 + 1)
        have h3 := plL_len lb (k * 2)
        have h4 := plL_len lb (k * 2 + 1)
        have := HY.out
        omega
      have HPL := hide hpl
      have HP := hide (And.intro hp1 (And.intro hp2 (And.intro hq1 hq2)))
      have HR := hide (And.intro r1 (And.intro r2 (And.intro s1 s2)))
      have HBB := hide (And.intro b1 b2)
      have hdb := HM.out.pb.blk.lt
      clear hp1 hp2 hq1 hq2 hk2 hk3 hpl r1 r2 s1 s2 b1 b2
      go_upto_region 8 with fail
      have HB1 : Hid (Below wr.heap.size wr (wr.alloc (.cells #[.slice A1 p1.length c1, .slice A2 p2.length c2] 96))) := hide ((Below.refl _ _).alloc (Nat.le_refl _) _)
      have E1 := Blk.new wr 96 #[.slice A1 p1.length c1, .slice A2 p2.length c2]
      obtain ⟨g, hg⟩ : ∃ g, wr.heap.size = g := ⟨_, rfl⟩
      rw [hg] at E1 ⊢
      have HG := hide hg
      generalize (wr.alloc (.cells #[.slice A1 p1.length c1, .slice A2 p2.length c2] 96)) = w1 at HB1 E1 ⊢
      have HS8 : Hid (∀ W, Below w1.heap.size w1 W → W.cell? ⟨g, 0, none⟩ = some (.slice A1 p1.length c1) ∧ W.cell? ⟨Db, k * 2, none⟩ = some (.slice B1 q1.length d1)) := hide fun W h =>
        ⟨(blk2 (E1.ext h)).2.1, ((HB1.out.trans (h.mono HB1.out.size)).cell (p := ⟨Db, k * 2, none⟩) hdb).trans HBB.out.1⟩
      have HS9 : Hid (∀ W, Below w1.heap.size w1 W → W.cell? ⟨g, 1, none⟩ = some (.slice A2 p2.length c2) ∧ W.cell? ⟨Db, k * 2 + 1, none⟩ = some (.slice B2 q2.length d2)) := hide fun W h =>
        ⟨(blk2 (E1.ext h)).2.2.1, ((HB1.out.trans (h.mono HB1.out.size)).cell (p := ⟨Db, k * 2 + 1, none⟩) hdb).trans HBB.out.2⟩
      have HJ1 : Hid (∀ W, Below w1.heap.size w1 W → Calls Tryd.prog 54 #[.slice A1 p1.length c1, .slice B1 q1.length d1] W fun e w' => ∃ A' c', e = .returned (.tuple #[.slice A' (jnL p1 q1).length c', .bool (jnB p1 q1)]) ∧ EdR w' w'.heap.size A' (jnL p1 q1) ∧ Below W.heap.size W w') := hide fun W h =>
        join_any A1 B1 c1 d1 p1 q1 W (by have := HPL.out; unfold maxLen; omega) (by have := HPL.out; unfold maxLen; omega) (HR.out.1.ext (HB1.out.trans (h.mono HB1.out.size))) (HR.out.2.2.1.ext (HB1.out.trans (h.mono HB1.out.size)))
      have HJ2 : Hid (∀ W, Below w1.heap.size w1 W → Calls Tryd.prog 54 #[.slice A2 p2.length c2, .slice B2 q2.length d2] W fun e w' => ∃ A' c', e = .returned (.tuple #[.slice A' (jnL p2 q2).length c', .bool (jnB p2 q2)]) ∧ EdR w' w'.heap.size A' (jnL p2 q2) ∧ Below W.heap.size W w') := hide fun W h =>
        join_any A2 B2 c2 d2 p2 q2 W (by have := HPL.out; unfold maxLen; omega) (by have := HPL.out; unfold maxLen; omega) (HR.out.2.1.ext (HB1.out.trans (h.mono HB1.out.size))) (HR.out.2.2.2.ext (HB1.out.trans (h.mono HB1.out.size)))
      clear E1 HBB hdb a1 a2
      have Bd := hide ((Below.refl w1.heap.size w1).drew)
      refine wp_region_J (fun W : World => W.cell? ⟨g, 0, none⟩ = some (.slice A1 p1.length c1) ∧ W.cell? ⟨Db, k * 2, none⟩ = some (.slice B1 q1.length d1)) (by kernel_rfl) ?_
      generalize w1.drew = wd at Bd ⊢
      refine wpAnyJ_take 0 (v := ?_) (by first | exact hF | exact wideFn) (HS8.out _ Bd.out) rfl (by kernel_rfl) (by kernel_rfl) (by kernel_rfl) (by kernel_rfl) rfl ?_ (by first | exact fun _ _ _ h => h | exact fun _ _ _ h => hQ2 _ _ _ _ _ h) ?_
      rotate_left
      · intro W hSW
        simp only [glA, glB, glC]
        (try dsimp only at hSW)
        go_simp
        with_reducible rfl
      (try simp only [glA, glB, glC, Act.put, glD, glE, glF])
      refine wpAnyJ_take 1 (v := ?_) (by first | exact hF | exact wideFn) (HS8.out _ Bd.out) rfl (by kernel_rfl) (by kernel_rfl) (by kernel_rfl) (by kernel_rfl) rfl ?_ (by first | exact fun _ _ _ h => h | exact fun _ _ _ h => hQ2 _ _ _ _ _ h) ?_
      rotate_left
      · intro W hSW
        simp only [glA, glB, glC]
        (try dsimp only at hSW)
        go_simp
        with_reducible rfl
      (try simp only [glA, glB, glC, Act.put, glD, glE, glF])
      refine wpAnyJ_take 2 (v := ?_) (by first | exact hF | exact wideFn) (HS8.out _ Bd.out) rfl (by kernel_rfl) (by kernel_rfl) (by kernel_rfl) (by kernel_rfl) rfl ?_ (by first | exact fun _ _ _ h => h | exact fun _ _ _ h => hQ2 _ _ _ _ _ h) ?_
      rotate_left
      · intro W hSW
        simp only [glA, glB, glC]
        (try dsimp only at hSW)
        go_simp
        with_reducible rfl
      (try simp only [glA, glB, glC, Act.put, glD, glE, glF])
      refine wpAnyJ_take 3 (v := ?_) (by first | exact hF | exact wideFn) (HS8.out _ Bd.out) rfl (by kernel_rfl) (by kernel_rfl) (by kernel_rfl) (by kernel_rfl) rfl ?_ (by first | exact fun _ _ _ h => h | exact fun _ _ _ h => hQ2 _ _ _ _ _ h) ?_
      rotate_left
      · intro W hSW
        simp only [glA, glB, glC]
        (try dsimp only at hSW)
        go_simp
        with_reducible rfl
      (try simp only [glA, glB, glC, Act.put, glD, glE, glF])
      refine wpAnyJ_take 4 (v := ?_) (by first | exact hF | exact wideFn) (HS8.out _ Bd.out) rfl (by kernel_rfl) (by kernel_rfl) (by kernel_rfl) (by kernel_rfl) rfl ?_ (by first | exact fun _ _ _ h => h | exact fun _ _ _ h => hQ2 _ _ _ _ _ h) ?_
      rotate_left
      · intro W hSW
        simp only [glA, glB, glC]
        (try dsimp only at hSW)
        go_simp
        with_reducible rfl
      (try simp only [glA, glB, glC, Act.put, glD, glE, glF])
      refine wpAnyJ_take 5 (v := ?_) (by first | exact hF | exact wideFn) (HS8.out _ Bd.out) rfl (by kernel_rfl) (by kernel_rfl) (by kernel_rfl) (by kernel_rfl) rfl ?_ (by first | exact fun _ _ _ h => h | exact fun _ _ _ h => hQ2 _ _ _ _ _ h) ?_
      rotate_left
      · intro W hSW
        simp only [glA, glB, glC]
        (try dsimp only at hSW)
        go_simp
        with_reducible rfl
      (try simp only [glA, glB, glC, Act.put, glD, glE, glF])
      refine wpAnyJ_take 6 (v := ?_) (by first | exact hF | exact wideFn) (HS8.out _ Bd.out) rfl (by kernel_rfl) (by kernel_rfl) (by kernel_rfl) (by kernel_rfl) rfl ?_ (by first | exact fun _ _ _ h => h | exact fun _ _ _ h => hQ2 _ _ _ _ _ h) ?_
      rotate_left
      · intro W hSW
        simp only [glA, glB, glC]
        (try dsimp only at hSW)
        go_simp
        with_reducible rfl
      (try simp only [glA, glB, glC, Act.put, glD, glE, glF])
      refine wpAnyJ_one 7 rfl (by kernel_rfl) (fun K hK => ?_)
      simp only [glA, glB, glC]
      go_simp
      refine ⟨trivial, rfl, ?_⟩
      (with_reducible refine (callsIn_wide.2 (HJ1.out _ Bd.out)).mono ?_)
      rintro e w8 ⟨X1, x1, rfl, hX1, hb8⟩
      have Be := hide (Bd.out.trans (hb8.mono Bd.out.size))
      dsimp only
      refine hK.out _ _ (fun _ => HS8.out _ Be.out) ?_
      clear hK K
      (try simp only [glA, glB, glC, Act.put, glD, glE, glF])
      refine wpAnyJ_take 8 (v := ?_) (by first | exact hF | exact wideFn) (HS8.out _ Be.out) rfl (by kernel_rfl) (by kernel_rfl) (by kernel_rfl) (by kernel_rfl) rfl ?_ (by first | exact fun _ _ _ h => h | exact fun _ _ _ h => hQ2 _ _ _ _ _ h) ?_
      rotate_left
      · intro W hSW
        simp only [glA, glB, glC]
        (try dsimp only at hSW)
        go_simp
        with_reducible rfl
      (try simp only [glA, glB, glC, Act.put, glD, glE, glF])
      refine wpAnyJ_take 9 (v := ?_) (by first | exact hF | exact wideFn) (HS8.out _ Be.out) rfl (by kernel_rfl) (by kernel_rfl) (by kernel_rfl) (by kernel_rfl) rfl ?_ (by first | exact fun _ _ _ h => h | exact fun _ _ _ h => hQ2 _ _ _ _ _ h) ?_
      rotate_left
      · intro W hSW
        simp only [glA, glB, glC]
        (try dsimp only at hSW)
        go_simp
        with_reducible rfl
      (try simp only [glA, glB, glC, Act.put, glD, glE, glF])
      refine wpAnyJ_take 10 (v := ?_) (by first | exact hF | exact wideFn) (HS8.out _ Be.out) rfl (by kernel_rfl) (by kernel_rfl) (by kernel_rfl) (by kernel_rfl) rfl ?_ (by first | exact fun _ _ _ h => h | exact fun _ _ _ h => hQ2 _ _ _ _ _ h) ?_
      rotate_left
      · intro W hSW
        simp only [glA, glB, glC]
        (try dsimp only at hSW)
        go_simp
        with_reducible rfl
      (try simp only [glA, glB, glC, Act.put, glD, glE, glF])
      refine wpAnyJ_take 11 (v := ?_) (by first | exact hF | exact wideFn) (HS8.out _ Be.out) rfl (by kernel_rfl) (by kernel_rfl) (by kernel_rfl) (by kernel_rfl) rfl ?_ (by first | exact fun _ _ _ h => h | exact fun _ _ _ h => hQ2 _ _ _ _ _ h) ?_
      rotate_left
      · intro W hSW
        simp only [glA, glB, glC]
        (try dsimp only at hSW)
        go_simp
        with_reducible rfl
      (try simp only [glA, glB, glC, Act.put, glD, glE, glF])
      refine wpAnyJ_take 12 (v := ?_) (by first | exact hF | exact wideFn) (HS8.out _ Be.out) rfl (by kernel_rfl) (by kernel_rfl) (by kernel_rfl) (by kernel_rfl) rfl ?_ (by first | exact fun _ _ _ h => h | exact fun _ _ _ h => hQ2 _ _ _ _ _ h) ?_
      rotate_left
      · intro W hSW
        simp only [glA, glB, glC]
        (try dsimp only at hSW)
        go_simp
        with_reducible rfl
      (try simp only [glA, glB, glC, Act.put, glD, glE, glF])
      refine wpAnyJ_done (by kernel_rfl) ?_
      have HX1 := hide hX1
      clear hX1 hb8
      go_upto_region 9 with fail
      have Bf := hide (Be.out.trans ((Below.refl w8.heap.size w8).drew.mono Be.out.size))
      have HX2 := hide (HX1.out.ext (Below.refl w8.heap.size w8).drew)
      refine wp_region_J (fun W : World => W.cell? ⟨g, 1, none⟩ = some (.slice A2 p2.length c2) ∧ W.cell? ⟨Db, k * 2 + 1, none⟩ = some (.slice B2 q2.length d2)) (by kernel_rfl) ?_
      generalize w8.drew = we at Bf HX2 ⊢
      refine wpAnyJ_take 0 (v := ?_) (by first | exact hF | exact wideFn) (HS9.out _ Bf.out) rfl (by kernel_rfl) (by kernel_rfl) (by kernel_rfl) (by kernel_rfl) rfl ?_ (by first | exact fun _ _ _ h => h | exact fun _ _ _ h => hQ2 _ _ _ _ _ h) ?_
      rotate_left
      · intro W hSW
        simp only [glA, glB, glC]
        (try dsimp only at hSW)
        go_simp
        with_reducible rfl
      (try simp only [glA, glB, glC, Act.put, glD, glE, glF])
      refine wpAnyJ_take 1 (v := ?_) (by first | exact hF | exact wideFn) (HS9.out _ Bf.out) rfl (by kernel_rfl) (by kernel_rfl) (by kernel_rfl) (by kernel_rfl) rfl ?_ (by first | exact fun _ _ _ h => h | exact fun _ _ _ h => hQ2 _ _ _ _ _ h) ?_
      rotate_left
      · intro W hSW
        simp only [glA, glB, glC]
        (try dsimp only at hSW)
        go_simp
        with_reducible rfl
      (try simp only [glA, glB, glC, Act.put, glD, glE, glF])
      refine wpAnyJ_take 2 (v := ?_) (by first | exact hF | exact wideFn) (HS9.out _ Bf.out) rfl (by kernel_rfl) (by kernel_rfl) (by kernel_rfl) (by kernel_rfl) rfl ?_ (by first | exact fun _ _ _ h => h | exact fun _ _ _ h => hQ2 _ _ _ _ _ h) ?_
      rotate_left
      · intro W hSW
        simp only [glA, glB, glC]
        (try dsimp only at hSW)
        go_simp
        with_reducible rfl
      (try simp only [glA, glB, glC, Act.put, glD, glE, glF])
      refine wpAnyJ_take 3 (v := ?_) (by first | exact hF | exact wideFn) (HS9.out _ Bf.out) rfl (by kernel_rfl) (by kernel_rfl) (by kernel_rfl) (by kernel_rfl) rfl ?_ (by first | exact fun _ _ _ h => h | exact fun _ _ _ h => hQ2 _ _ _ _ _ h) ?_
      rotate_left
      · intro W hSW
        simp only [glA, glB, glC]
        (try dsimp only at hSW)
        go_simp
        with_reducible rfl
      (try simp only [glA, glB, glC, Act.put, glD, glE, glF])
      refine wpAnyJ_take 4 (v := ?_) (by first | exact hF | exact wideFn) (HS9.out _ Bf.out) rfl (by kernel_rfl) (by kernel_rfl) (by kernel_rfl) (by kernel_rfl) rfl ?_ (by first | exact fun _ _ _ h => h | exact fun _ _ _ h => hQ2 _ _ _ _ _ h) ?_
      rotate_left
      · intro W hSW
        simp only [glA, glB, glC]
        (try dsimp only at hSW)
        go_simp
        with_reducible rfl
      (try simp only [glA, glB, glC, Act.put, glD, glE, glF])
      refine wpAnyJ_take 5 (v := ?_) (by first | exact hF | exact wideFn) (HS9.out _ Bf.out) rfl (by kernel_rfl) (by kernel_rfl) (by kernel_rfl) (by kernel_rfl) rfl ?_ (by first | exact fun _ _ _ h => h | exact fun _ _ _ h => hQ2 _ _ _ _ _ h) ?_
      rotate_left
      · intro W hSW
        simp only [glA, glB, glC]
        (try dsimp only at hSW)
        go_simp
        with_reducible rfl
      (try simp only [glA, glB, glC, Act.put, glD, glE, glF])
      refine wpAnyJ_take 6 (v := ?_) (by first | exact hF | exact wideFn) (HS9.out _ Bf.out) rfl (by kernel_rfl) (by kernel_rfl) (by kernel_rfl) (by kernel_rfl) rfl ?_ (by first | exact fun _ _ _ h => h | exact fun _ _ _ h => hQ2 _ _ _ _ _ h) ?_
      rotate_left
      · intro W hSW
        simp only [glA, glB, glC]
        (try dsimp only at hSW)
        go_simp
        with_reducible rfl
      (try simp only [glA, glB, glC, Act.put, glD, glE, glF])
      refine wpAnyJ_one 7 rfl (by kernel_rfl) (fun K hK => ?_)
      simp only [glA, glB, glC]
      go_simp
      refine ⟨trivial, rfl, ?_⟩
      (with_reducible refine (callsIn_wide.2 (HJ2.out _ Bf.out)).mono ?_)
      rintro e w9 ⟨Y1, y1, rfl, hY1, hb9⟩
      have Bg := hide (Bf.out.trans (hb9.mono Bf.out.size))
      dsimp only
      refine hK.out _ _ (fun _ => HS9.out _ Bg.out) ?_
      clear hK K
      (try simp only [glA, glB, glC, Act.put, glD, glE, glF])
      refine wpAnyJ_take 8 (v := ?_) (by first | exact hF | exact wideFn) (HS9.out _ Bg.out) rfl (by kernel_rfl) (by kernel_rfl) (by kernel_rfl) (by kernel_rfl) rfl ?_ (by first | exact fun _ _ _ h => h | exact fun _ _ _ h => hQ2 _ _ _ _ _ h) ?_
      rotate_left
      · intro W hSW
        simp only [glA, glB, glC]
        (try dsimp only at hSW)
        go_simp
        with_reducible rfl
      (try simp only [glA, glB, glC, Act.put, glD, glE, glF])
      refine wpAnyJ_take 9 (v := ?_) (by first | exact hF | exact wideFn) (HS9.out _ Bg.out) rfl (by kernel_rfl) (by kernel_rfl) (by kernel_rfl) (by kernel_rfl) rfl ?_ (by first | exact fun _ _ _ h => h | exact fun _ _ _ h => hQ2 _ _ _ _ _ h) ?_
      rotate_left
      · intro W hSW
        simp only [glA, glB, glC]
        (try dsimp only at hSW)
        go_simp
        with_reducible rfl
      (try simp only [glA, glB, glC, Act.put, glD, glE, glF])
      refine wpAnyJ_take 10 (v := ?_) (by first | exact hF | exact wideFn) (HS9.out _ Bg.out) rfl (by kernel_rfl) (by kernel_rfl) (by kernel_rfl) (by kernel_rfl) rfl ?_ (by first | exact fun _ _ _ h => h | exact fun _ _ _ h => hQ2 _ _ _ _ _ h) ?_
      rotate_left
      · intro W hSW
        simp only [glA, glB, glC]
        (try dsimp only at hSW)
        go_simp
        with_reducible rfl
      (try simp only [glA, glB, glC, Act.put, glD, glE, glF])
      refine wpAnyJ_take 11 (v := ?_) (by first | exact hF | exact wideFn) (HS9.out _ Bg.out) rfl (by kernel_rfl) (by kernel_rfl) (by kernel_rfl) (by kernel_rfl) rfl ?_ (by first | exact fun _ _ _ h => h | exact fun _ _ _ h => hQ2 _ _ _ _ _ h) ?_
      rotate_left
      · intro W hSW
        simp only [glA, glB, glC]
        (try dsimp only at hSW)
        go_simp
        with_reducible rfl
      (try simp only [glA, glB, glC, Act.put, glD, glE, glF])
      refine wpAnyJ_take 12 (v := ?_) (by first | exact hF | exact wideFn) (HS9.out _ Bg.out) rfl (by kernel_rfl) (by kernel_rfl) (by kernel_rfl) (by kernel_rfl) rfl ?_ (by first | exact fun _ _ _ h => h | exact fun _ _ _ h => hQ2 _ _ _ _ _ h) ?_
      rotate_left
      · intro W hSW
        simp only [glA, glB, glC]
        (try dsimp only at hSW)
        go_simp
        with_reducible rfl
      (try simp only [glA, glB, glC, Act.put, glD, glE, glF])
      refine wpAnyJ_done (by kernel_rfl) ?_
      have HX3 := hide (HX2.out.ext hb9)
      have HY3 := hide hY1
      have HM9 := hide (HM.out.ext (HB1.out.trans (Bg.out.mono HB1.out.size)))
      clear hb9 hY1 HX1 HX2 HS8 HS9 HJ1 HJ2 HR HM Be Bf
      have hok : mgOk la lb k = (jnB p1 q1 && jnB p2 q2) := by
        unfold mgOk; rw [HP.out.1, HP.out.2.1, HP.out.2.2.1, HP.out.2.2.2]
      have hes : mgE la lb k = jnL p1 q1 ++ jnL p2 q2 := by
        unfold mgE; rw [HP.out.1, HP.out.2.1, HP.out.2.2.1, HP.out.2.2.2]
      have HOK := hide hok
      have HES := hide hes
      have hj1 : (jnL p1 q1).length ≤ 100 := by have := jnL_len p1 q1 HPL.out.1 HPL.out.2.2.1; omega
      have hj2 : (jnL p2 q2).length ≤ 100 := by have := jnL_len p2 q2 HPL.out.2.1 HPL.out.2.2.2; omega
      have HCT := hide (concat_two X1 Y1 x1 y1 _ _ w9 hj1 hj2 HX3.out HY3.out)
      clear hok hes hj1 hj2 HX3 HY3 HP HPL
      generalize jnB p1 q1 = ok1 at HOK ⊢
      generalize jnB p2 q2 = ok2 at HOK ⊢
      generalize jnL p1 q1 = j1 at HES HCT ⊢
      generalize jnL p2 q2 = j2 at HES HCT ⊢
      go_upto_region 10 with fail
      rcases ok1 with _ | _
      · rw [Bool.false_and] at HOK
        go_wp2_with fail
        go_ret3
        rw [mgX_clash (k := k) (mgC_some la lb (k + 1) _ (by rw [HN.out, HNN.out]; omega) (by rw [mgC_succ _ _ _ HMC.out, HOK.out]; rfl))]
        exact ⟨_, rfl, OwnS.nil _ _, HM9.out.ex.below⟩
      rcases ok2 with _ | _
      · rw [Bool.and_false] at HOK
        go_wp2_with fail
        go_ret3
        rw [mgX_clash (k := k) (mgC_some la lb (k + 1) _ (by rw [HN.out, HNN.out]; omega) (by rw [mgC_succ _ _ _ HMC.out, HOK.out]; rfl))]
        exact ⟨_, rfl, OwnS.nil _ _, HM9.out.ex.below⟩
      rw [Bool.and_self] at HOK
      go_wp2_with fail
      refine HCT.out.mono ?_
      rintro e w10 ⟨v10, rfl, ho10, hb10⟩
      rw [← HES.out] at ho10
      obtain ⟨A10, c10, rfl, -⟩ := ho10.edR
      obtain ⟨es, hes⟩ : ∃ es, mgE la lb k = es := ⟨_, rfl⟩
      rw [hes] at ho10 ⊢
      have HEE := hide hes
      obtain ⟨m, hm⟩ : ∃ m, es.length = m := ⟨_, rfl⟩
      have HM10 : Hid (MgI w w10 X Da Db A c base la lb va vb (edsF base (mgF base la lb k) (es.take 0)) v) := hide (HM9.out.ext hb10)
      rw [hm] at ho10 ⊢
      have HO10 := hide ho10
      have HMM := hide hm
      have hm80 : m ≤ 80 := by rw [← hm, ← hes]; exact mgE_len la lb k HY.out.1 HY.out.2
      clear ho10 hes hm HM9 hb10 HCT HES
      go_upto_region 13 with fail
      go_loopw [80] (fun i wq => ∃ (j : Nat) (v' : Value), j ≤ m ∧ i = .int .i64 j ∧ Hid (OwnE wq w9.heap.size (.slice A10 m c10) es) ∧ Hid (MgI w wq X Da Db A c base la lb va vb (edsF base (mgF base la lb k) (es.take j)) v')) (fun i _ => m - (intOf i).toNat)
      case atStart => exact ⟨0, _, Nat.zero_le _, rfl, HO10, HM10⟩
      case round =>
        obtain ⟨j, v', hj, rfl, HO, HMj⟩ := hrel
        clear HO10 HM10
        by_cases hltj : j < m
        · -- BEGIN3
          have hltj' : (j : Int) < (m : Int) := by omega
          have j0 : (0 : Int) ≤ (j : Int) := by omega
          obtain ⟨e, he⟩ : ∃ e, es.getD j e0 = e := ⟨_, rfl⟩
          obtain ⟨ea, eo, rfl, hea, g0, g1, g2, g3⟩ := (HO.out.edS).2.at_ (by rw [HMM.out]; exact hltj) he
          have hmem : e ∈ mgE la lb k := by
            rw [HEE.out, ← he, List.getD_eq_getElem?_getD, List.getElem?_eq_getElem (by rw [HMM.out]; exact hltj)]
            exact List.getElem_mem _
          have hnx := edsF_take base (mgF base la lb k) es (k := j) (by rw [HMM.out]; exact hltj) he
          have HNX := hide hnx
          have heo := mgE_ok FA.out FB.out hmem
          have hpl := mg_place FA.out FB.out k j (mgF base la lb k) (mgF_place FA.out FB.out OA.out OB.out k) OA.out OB.out (by rw [HEE.out, HMM.out]; exact hltj)
          have hln := eds_len base la lb (by rw [HN.out]; exact z0) HY.out.1 HY.out.2 k j
          rw [HEE.out] at hpl hln
          have HEO := hide (And.intro heo (And.intro hpl hln))
          clear he hmem hnx heo hpl hln
          generalize edsF base (mgF base la lb k) (es.take j) = s at HMj HEO HNX
          obtain ⟨ki, at_, old, new⟩ := e
          dsimp only at g0 g1 g2 g3
          go_upto_region 15 with fail
          have HB2 : Hid (Below wr.heap.size wr (wr.alloc (.cells #[.int .i64 ki, .int .i64 at_, .string old, .string new] 86))) := hide ((Below.refl _ _).alloc (Nat.le_refl _) _)
          have E2 := Blk.new wr 86 #[.int .i64 ki, .int .i64 at_, .string old, .string new]
          generalize (wr.alloc (.cells #[.int .i64 ki, .int .i64 at_, .string old, .string new] 86)) = w11 at HB2 E2 ⊢
          obtain ⟨f0, f1, f2, f3, f4⟩ := blk4 E2
          have HM11 := hide (HMj.out.ext HB2.out)
          have HO11 := hide (HO.out.ext HB2.out)
          clear E2 HMj HO g0 g1 g2 g3
          go_wp2_with fail
          refine (edit_fits w w11 X A c base s.1 v' s.2 ⟨ki, at_, old, new⟩ HM11.out.ex HA.out HEO.out.1.1 (by rw [HEO.out.1.2]; exact HEO.out.2.1) HAC.out.1 HAC.out.2 (by have := HEO.out.2.2; rw [HN.out]; omega)).mono ?_
          rintro e2 w12 ⟨v12, rfl, hX12, hK12, -⟩
          have HM12 : Hid (MgI w w12 X Da Db A c base la lb va vb (edsF base (mgF base la lb k) (es.take (j + 1))) v12) := hide (by rw [HNX.out]; exact HM11.out.kx hX12 hK12)
          have HO12 := hide (HO11.out.kx HM11.out.ex hK12)
          clear hX12 hK12 HM11 HO11
          go_wp2_with fail
          go_roundw
          case rel => exact ⟨j + 1, v12, by omega, by go_num, HO12, HM12⟩
          case measure => simp [intOf]; omega
          -- END3
        · -- BEGIN4
          obtain rfl : j = m := by omega
          have hnl : ¬ (j : Int) < (j : Int) := by omega
          have HM13 : Hid (MgI w wr X Da Db A c base la lb va vb (mgF base la lb (k + 1)) v') := hide (by
            have h := HMj.out
            rw [List.take_of_length_le (by rw [HMM.out]; omega), ← HEE.out] at h
            exact h)
          clear HMj HO
          go_wp2_with fail
          go_roundw
          case rel => exact ⟨k + 1, v', by omega, by go_num, by rw [mgC_succ _ _ _ HMC.out, HOK.out]; rfl, HM13⟩
          case measure => simp [intOf]; omega
          -- END4
      -- END1
    · -- BEGIN2
      obtain rfl : k = N := by omega
      have hnl : ¬ (k : Int) < (k : Int) := by omega
      have hmc : mgC la lb (base.length + 1) = none := by rw [HN.out, HNN.out]; exact HMC.out
      have hpl := mgF_end FA.out FB.out OA.out OB.out
      have hln := mgF_len base la lb (by rw [HN.out]; exact z0) HY.out.1 HY.out.2 k
      have hkn : k = base.length + 1 := by rw [HN.out, HNN.out]
      rw [hkn] at HM hln
      obtain ⟨s, hs⟩ : ∃ s, mgF base la lb (base.length + 1) = s := ⟨_, rfl⟩
      rw [hs] at HM hln hpl
      have HS := hide (And.intro hmc (And.intro hs hpl))
      clear hmc hpl hs hkn
      go_wp2_with fail
      refine (take_any w wr X A c base s.1 n v s.2 HM.out.ex HA.out (by have := HS.out.2.2; rwa [HN.out] at this) (by rw [HN.out]; exact Nat.le_refl _) HAC.out.1 HAC.out.2 (by have := HN.out; omega)).mono ?_
      rintro e w8 ⟨v8, rfl, hX8, -, -⟩
      obtain ⟨A8, c8, hv8⟩ := own_shape hX8.own
      obtain ⟨r, hr⟩ : ∃ r, takeL base s.1 n s.2 = r := ⟨_, rfl⟩
      rw [hr] at hX8 hv8
      subst hv8
      have hb8 := (blk3 hX8.blk).2.2.2.1
      have hr' : takeL base s.1 base.length s.2 = r := by rw [HN.out]; exact hr
      have HX8 := hide hX8
      by_cases hl20 : r.length ≤ 20
      · have hx := mgX_ok HS.out.1 HS.out.2.1 hr' hl20
        have HX := hide hx
        have hl' : ¬ (20 : Int) < (r.length : Int) := by omega
        clear hx hr hr' hX8
        generalize r.length = rn at *
        go_wp2_with fail
        go_ret3
        rw [HX.out]
        exact ⟨_, rfl, HX8.out.own, HX8.out.below⟩
      · have hx := mgX_long HS.out.1 HS.out.2.1 hr' hl20
        have HX := hide hx
        have hl' : (20 : Int) < (r.length : Int) := by omega
        clear hx hr hr' hX8
        generalize r.length = rn at *
        go_wp2_with fail
        go_ret3
        rw [HX.out]
        exact ⟨_, rfl, OwnS.nil _ _, HX8.out.below⟩
      -- END2
theorem Merge_any (A B C : Option Addr) (c d f : Nat) (base a b : List Wd) (w : World) (h0 : SzOk base) (ha : SzOk a) (hb : SzOk b) (hA : SR w w.heap.size A base) (hB : SR w w.heap.size B a) (hC : SR w w.heap.size C b) (hac : base.length ≤ c) (hc : c ≤ maxLen) :
    Calls Tryd.prog 22 #[.slice A base.length c, .slice B a.length d, .slice C b.length f] w (MgPost w (mgR base a b)) := by
  cases ht : (textB base && textB a && textB b) with
  | false =>
    have e : mgR base a b = ([], 0, 2) := by unfold mgR; rw [ht]; rfl
    rw [e]
    exact merge_not A B C c d f base a b w h0 ha hb hA hB hC ht
  | true =>
    have e : mgR base a b = mgX base (alL base 0 a) (alL base 0 b) := by unfold mgR; rw [ht]; rfl
    rw [e]
    rw [Bool.and_eq_true, Bool.and_eq_true] at ht
    exact merge_go A B C c d f base a b _ _ w h0 ha hb hA hB hC hac hc ht.1.1 ht.1.2 ht.2 rfl rfl
end Go.Proofs.YtmpegkojencbjaaDoor
/- School: the calls that are known, plain. -/
namespace Go.Proofs.YtmpegkojencbjaaDoor
open Go Go.RowKit Go.Shelf
set_option maxRecDepth 100000
def wOne : Wd := .mk #[111, 110, 101]
def wTwo : Wd := .mk #[116, 119, 111]
def wThree : Wd := .mk #[116, 104, 114, 101, 101]
def wFour : Wd := .mk #[102, 111, 117, 114]
def wLay : Wd := .mk #[108, 97, 121]
def wThe : Wd := .mk #[116, 104, 101]
def wRed : Wd := .mk #[114, 101, 100]
def wBricks : Wd := .mk #[98, 114, 105, 99, 107, 115]
theorem known_align : (textB [wOne, wTwo, wThree] && textB [wOne, wFour]) = true := by decide
theorem known_alL : alL [wOne, wTwo, wThree] 0 [wOne, wFour] = [⟨1, 1, wTwo, wFour⟩, ⟨2, 2, wThree, noW⟩] := by decide
theorem known_merge : mgR [wLay, wThe, wBricks] [wLay, wThe, wRed, wBricks] [wLay, wBricks] = ([wLay, wRed, wBricks], 0, 0) := by decide
def hdS : Sch := ⟨[2, 3], 1, [⟨[], 0, 200⟩, ⟨[(0, 2)], 0, 999⟩, ⟨[(1, 5)], 0, 395⟩]⟩
def ldS : Sch := ⟨[2, 3], 1, [⟨[], 0, 200⟩, ⟨[(0, 2)], 0, 999⟩]⟩
theorem known_schB : schB hdS = true := by decide
theorem known_schB2 : schB ldS = true := by decide
theorem known_dec1 : decR hdS [1, 1] 0 = (999, 0, [1]) := by decide
theorem known_dec2 : (decR hdS [1, 0] 0).2.1 = 110 := by decide
theorem known_rs : rsR [-1, 0, 0, 0] [-1, 5, 7, 7] = ([7, 5, 7, 7], 1, 0) := by decide
theorem known_df : dfR hdS ldS 0 = ([0, 0], 0) := by decide
theorem SR.new (W : World) (l : List Wd) : SR (W.alloc (.cells (strs l).toArray 9)) (W.alloc (.cells (strs l).toArray 9)).heap.size (some ⟨W.heap.size, 0, none⟩) l := fun _ => by
  refine ⟨W.heap.size, 0, rfl, by simp, fun k i hk hi => ?_⟩
  obtain rfl : i = 0 := by omega
  rw [show 0 + k * 1 + 0 = k by omega, (Blk.new W 9 (strs l).toArray).cell, List.getElem?_toArray, strs_at l hk]
theorem LI.new (W : World) (l : List Int) : LI (W.alloc (.cells (intJ l).toArray 3)) (W.alloc (.cells (intJ l).toArray 3)).heap.size (some ⟨W.heap.size, 0, none⟩) l := fun _ => by
  refine ⟨W.heap.size, 0, rfl, by simp, fun k i hk hi => ?_⟩
  obtain rfl : i = 0 := by omega
  rw [show 0 + k * 1 + 0 = k by omega, (Blk.new W 3 (intJ l).toArray).cell, List.getElem?_toArray, intJ_at l hk]
theorem SzOk.small {l : List Wd} (h : (decide (l.length ≤ 100) && l.all fun x => decide (x.size ≤ 100)) = true) : SzOk l := by
  rw [Bool.and_eq_true] at h
  have h1 := of_decide_eq_true h.1
  refine ⟨by unfold maxLen; omega, fun x hx => ?_⟩
  have h2 := List.all_eq_true.1 h.2 x hx
  have h3 := of_decide_eq_true h2
  unfold maxLen; omega
/-- where the school of a hundred lies -/
def hdD (b : Nat) : Ad_ := ⟨some ⟨b + 1, 0, none⟩, 2, some ⟨b + 1 + 1 + 1 + 1, 0, none⟩, 3, fun k => if k = 0 then none else if k = 1 then some ⟨b + 1 + 1, 0, none⟩ else some ⟨b + 1 + 1 + 1, 0, none⟩, fun k => if k = 0 then 0 else 1⟩
theorem hundred_any (w : World) : Calls Tryd.prog 48 #[] w fun e w' => e = .returned (scV (hdD w.heap.size) hdS) ∧ ScR w' w'.heap.size (hdD w.heap.size) hdS ∧ Below w.heap.size w w' := by
  go_enter Tryd.func48, Tryd.ntmps48
  go_wp2_with fail
  have b0 : Blk (((((w.alloc (.cells #[.slice (some ⟨w.heap.size + 1, 0, none⟩) 2 2, .int .i64 1, .slice (some ⟨w.heap.size + 1 + 1 + 1 + 1, 0, none⟩) 3 3] 47)).alloc (.cells #[.int .i64 2, .int .i64 3] 3)).alloc (.cells #[.int .i64 0, .int .i64 2] 76)).alloc (.cells #[.int .i64 1, .int .i64 5] 76)).alloc (.cells #[.slice none 0 0, .int .i64 0, .int .i64 200, .slice (some ⟨w.heap.size + 1 + 1, 0, none⟩) 1 1, .int .i64 0, .int .i64 999, .slice (some ⟨w.heap.size + 1 + 1 + 1, 0, none⟩) 1 1, .int .i64 0, .int .i64 395] 73)) w.heap.size 47 #[.slice (some ⟨w.heap.size + 1, 0, none⟩) 2 2, .int .i64 1, .slice (some ⟨w.heap.size + 1 + 1 + 1 + 1, 0, none⟩) 3 3] := ((((Blk.new w _ _).alloc _).alloc _).alloc _).alloc _
  have b1 : Blk (((((w.alloc (.cells #[.slice (some ⟨w.heap.size + 1, 0, none⟩) 2 2, .int .i64 1, .slice (some ⟨w.heap.size + 1 + 1 + 1 + 1, 0, none⟩) 3 3] 47)).alloc (.cells #[.int .i64 2, .int .i64 3] 3)).alloc (.cells #[.int .i64 0, .int .i64 2] 76)).alloc (.cells #[.int .i64 1, .int .i64 5] 76)).alloc (.cells #[.slice none 0 0, .int .i64 0, .int .i64 200, .slice (some ⟨w.heap.size + 1 + 1, 0, none⟩) 1 1, .int .i64 0, .int .i64 999, .slice (some ⟨w.heap.size + 1 + 1 + 1, 0, none⟩) 1 1, .int .i64 0, .int .i64 395] 73)) (w.heap.size + 1) 3 #[.int .i64 2, .int .i64 3] := by simpa using (((Blk.new (w.alloc (.cells #[.slice (some ⟨w.heap.size + 1, 0, none⟩) 2 2, .int .i64 1, .slice (some ⟨w.heap.size + 1 + 1 + 1 + 1, 0, none⟩) 3 3] 47)) 3 #[.int .i64 2, .int .i64 3]).alloc (.cells #[.int .i64 0, .int .i64 2] 76)).alloc (.cells #[.int .i64 1, .int .i64 5] 76)).alloc (.cells #[.slice none 0 0, .int .i64 0, .int .i64 200, .slice (some ⟨w.heap.size + 1 + 1, 0, none⟩) 1 1, .int .i64 0, .int .i64 999, .slice (some ⟨w.heap.size + 1 + 1 + 1, 0, none⟩) 1 1, .int .i64 0, .int .i64 395] 73)
  have b2 : Blk (((((w.alloc (.cells #[.slice (some ⟨w.heap.size + 1, 0, none⟩) 2 2, .int .i64 1, .slice (some ⟨w.heap.size + 1 + 1 + 1 + 1, 0, none⟩) 3 3] 47)).alloc (.cells #[.int .i64 2, .int .i64 3] 3)).alloc (.cells #[.int .i64 0, .int .i64 2] 76)).alloc (.cells #[.int .i64 1, .int .i64 5] 76)).alloc (.cells #[.slice none 0 0, .int .i64 0, .int .i64 200, .slice (some ⟨w.heap.size + 1 + 1, 0, none⟩) 1 1, .int .i64 0, .int .i64 999, .slice (some ⟨w.heap.size + 1 + 1 + 1, 0, none⟩) 1 1, .int .i64 0, .int .i64 395] 73)) (w.heap.size + 1 + 1) 76 #[.int .i64 0, .int .i64 2] := by simpa using ((Blk.new ((w.alloc (.cells #[.slice (some ⟨w.heap.size + 1, 0, none⟩) 2 2, .int .i64 1, .slice (some ⟨w.heap.size + 1 + 1 + 1 + 1, 0, none⟩) 3 3] 47)).alloc (.cells #[.int .i64 2, .int .i64 3] 3)) 76 #[.int .i64 0, .int .i64 2]).alloc (.cells #[.int .i64 1, .int .i64 5] 76)).alloc (.cells #[.slice none 0 0, .int .i64 0, .int .i64 200, .slice (some ⟨w.heap.size + 1 + 1, 0, none⟩) 1 1, .int .i64 0, .int .i64 999, .slice (some ⟨w.heap.size + 1 + 1 + 1, 0, none⟩) 1 1, .int .i64 0, .int .i64 395] 73)
  have b3 : Blk (((((w.alloc (.cells #[.slice (some ⟨w.heap.size + 1, 0, none⟩) 2 2, .int .i64 1, .slice (some ⟨w.heap.size + 1 + 1 + 1 + 1, 0, none⟩) 3 3] 47)).alloc (.cells #[.int .i64 2, .int .i64 3] 3)).alloc (.cells #[.int .i64 0, .int .i64 2] 76)).alloc (.cells #[.int .i64 1, .int .i64 5] 76)).alloc (.cells #[.slice none 0 0, .int .i64 0, .int .i64 200, .slice (some ⟨w.heap.size + 1 + 1, 0, none⟩) 1 1, .int .i64 0, .int .i64 999, .slice (some ⟨w.heap.size + 1 + 1 + 1, 0, none⟩) 1 1, .int .i64 0, .int .i64 395] 73)) (w.heap.size + 1 + 1 + 1) 76 #[.int .i64 1, .int .i64 5] := by simpa using (Blk.new (((w.alloc (.cells #[.slice (some ⟨w.heap.size + 1, 0, none⟩) 2 2, .int .i64 1, .slice (some ⟨w.heap.size + 1 + 1 + 1 + 1, 0, none⟩) 3 3] 47)).alloc (.cells #[.int .i64 2, .int .i64 3] 3)).alloc (.cells #[.int .i64 0, .int .i64 2] 76)) 76 #[.int .i64 1, .int .i64 5]).alloc (.cells #[.slice none 0 0, .int .i64 0, .int .i64 200, .slice (some ⟨w.heap.size + 1 + 1, 0, none⟩) 1 1, .int .i64 0, .int .i64 999, .slice (some ⟨w.heap.size + 1 + 1 + 1, 0, none⟩) 1 1, .int .i64 0, .int .i64 395] 73)
  have b4 : Blk (((((w.alloc (.cells #[.slice (some ⟨w.heap.size + 1, 0, none⟩) 2 2, .int .i64 1, .slice (some ⟨w.heap.size + 1 + 1 + 1 + 1, 0, none⟩) 3 3] 47)).alloc (.cells #[.int .i64 2, .int .i64 3] 3)).alloc (.cells #[.int .i64 0, .int .i64 2] 76)).alloc (.cells #[.int .i64 1, .int .i64 5] 76)).alloc (.cells #[.slice none 0 0, .int .i64 0, .int .i64 200, .slice (some ⟨w.heap.size + 1 + 1, 0, none⟩) 1 1, .int .i64 0, .int .i64 999, .slice (some ⟨w.heap.size + 1 + 1 + 1, 0, none⟩) 1 1, .int .i64 0, .int .i64 395] 73)) (w.heap.size + 1 + 1 + 1 + 1) 73 #[.slice none 0 0, .int .i64 0, .int .i64 200, .slice (some ⟨w.heap.size + 1 + 1, 0, none⟩) 1 1, .int .i64 0, .int .i64 999, .slice (some ⟨w.heap.size + 1 + 1 + 1, 0, none⟩) 1 1, .int .i64 0, .int .i64 395] := by
    simpa using Blk.new ((((w.alloc (.cells #[.slice (some ⟨w.heap.size + 1, 0, none⟩) 2 2, .int .i64 1, .slice (some ⟨w.heap.size + 1 + 1 + 1 + 1, 0, none⟩) 3 3] 47)).alloc (.cells #[.int .i64 2, .int .i64 3] 3)).alloc (.cells #[.int .i64 0, .int .i64 2] 76)).alloc (.cells #[.int .i64 1, .int .i64 5] 76)) 73 #[.slice none 0 0, .int .i64 0, .int .i64 200, .slice (some ⟨w.heap.size + 1 + 1, 0, none⟩) 1 1, .int .i64 0, .int .i64 999, .slice (some ⟨w.heap.size + 1 + 1 + 1, 0, none⟩) 1 1, .int .i64 0, .int .i64 395]
  have hB : Below w.heap.size w (((((w.alloc (.cells #[.slice (some ⟨w.heap.size + 1, 0, none⟩) 2 2, .int .i64 1, .slice (some ⟨w.heap.size + 1 + 1 + 1 + 1, 0, none⟩) 3 3] 47)).alloc (.cells #[.int .i64 2, .int .i64 3] 3)).alloc (.cells #[.int .i64 0, .int .i64 2] 76)).alloc (.cells #[.int .i64 1, .int .i64 5] 76)).alloc (.cells #[.slice none 0 0, .int .i64 0, .int .i64 200, .slice (some ⟨w.heap.size + 1 + 1, 0, none⟩) 1 1, .int .i64 0, .int .i64 999, .slice (some ⟨w.heap.size + 1 + 1 + 1, 0, none⟩) 1 1, .int .i64 0, .int .i64 395] 73)) := (((((Below.refl _ _).alloc (Nat.le_refl _) _).alloc (by simp) _).alloc (by simp only [World.size_alloc]; omega) _).alloc (by simp only [World.size_alloc]; omega) _).alloc (by simp only [World.size_alloc]; omega) _
  generalize (((((w.alloc (.cells #[.slice (some ⟨w.heap.size + 1, 0, none⟩) 2 2, .int .i64 1, .slice (some ⟨w.heap.size + 1 + 1 + 1 + 1, 0, none⟩) 3 3] 47)).alloc (.cells #[.int .i64 2, .int .i64 3] 3)).alloc (.cells #[.int .i64 0, .int .i64 2] 76)).alloc (.cells #[.int .i64 1, .int .i64 5] 76)).alloc (.cells #[.slice none 0 0, .int .i64 0, .int .i64 200, .slice (some ⟨w.heap.size + 1 + 1, 0, none⟩) 1 1, .int .i64 0, .int .i64 999, .slice (some ⟨w.heap.size + 1 + 1 + 1, 0, none⟩) 1 1, .int .i64 0, .int .i64 395] 73)) = w5 at b0 b1 b2 b3 b4 hB ⊢
  obtain ⟨-, q0, q1, q2, -⟩ := blk3 b0
  refine bodyPost_ret (v := .agg #[.slice (some ⟨w.heap.size + 1, 0, none⟩) 2 2, .int .i64 1, .slice (some ⟨w.heap.size + 1 + 1 + 1 + 1, 0, none⟩) 3 3]) (by simp [results, Tryd.results48, go_sem, q0, q1, q2]) rfl ⟨rfl, ⟨fun _ => ⟨w.heap.size + 1, 0, rfl, b1.lt, fun k i hk hi => ?_⟩, ⟨fun _ => ⟨w.heap.size + 1 + 1 + 1 + 1, 0, rfl, b4.lt, fun k i hk hi => ?_⟩, fun k hk => ?_⟩⟩, hB⟩
  · obtain rfl : i = 0 := by omega
    have hk : k < 2 := hk
    rw [b1.cell]
    rcases (by omega : k = 0 ∨ k = 1) with rfl | rfl <;> rfl
  · have hk : k < 3 := hk
    rw [b4.cell]
    rcases (by omega : k = 0 ∨ k = 1 ∨ k = 2) with rfl | rfl | rfl <;> rcases (by omega : i = 0 ∨ i = 1 ∨ i = 2) with rfl | rfl | rfl <;> rfl
  · have hk : k < 3 := hk
    rcases (by omega : k = 0 ∨ k = 1 ∨ k = 2) with rfl | rfl | rfl
    · exact fun h => absurd h (by decide)
    · refine fun _ => ⟨w.heap.size + 1 + 1, 0, rfl, b2.lt, fun k i hk hi => ?_⟩
      have hk : k < 1 := hk
      rw [b2.cell]
      obtain rfl : k = 0 := by omega
      rcases (by omega : i = 0 ∨ i = 1) with rfl | rfl <;> rfl
    · refine fun _ => ⟨w.heap.size + 1 + 1 + 1, 0, rfl, b3.lt, fun k i hk hi => ?_⟩
      have hk : k < 1 := hk
      rw [b3.cell]
      obtain rfl : k = 0 := by omega
      rcases (by omega : i = 0 ∨ i = 1) with rfl | rfl <;> rfl
end Go.Proofs.YtmpegkojencbjaaDoor
/- School: known. -/
namespace Go.Proofs.YtmpegkojencbjaaDoor
open List renaming getElem_toArray → glA, getElem_cons_zero → glB, getElem_cons_succ → glC, setIfInBounds_toArray → glD, set_cons_zero → glE, set_cons_succ → glF
open Go Go.RowKit Go.Shelf
set_option maxHeartbeats 8000000
set_option maxRecDepth 100000
theorem SR.newA {W : World} {b : Nat} (l : List Wd) (h : W.heap.size = b) : SR (W.alloc (.cells (strs l).toArray 9)) (W.alloc (.cells (strs l).toArray 9)).heap.size (some ⟨b, 0, none⟩) l := h ▸ SR.new W l
theorem LI.newA {W : World} {b : Nat} (l : List Int) (h : W.heap.size = b) : LI (W.alloc (.cells (intJ l).toArray 3)) (W.alloc (.cells (intJ l).toArray 3)).heap.size (some ⟨b, 0, none⟩) l := h ▸ LI.new W l
theorem known_a (W : World) : Calls Tryd.prog 17 #[.slice (some ⟨W.heap.size, 0, none⟩) 3 3, .slice (some ⟨W.heap.size + 1, 0, none⟩) 2 2] ((W.alloc (.cells (strs [wOne, wTwo, wThree]).toArray 9)).alloc (.cells (strs [wOne, wFour]).toArray 9)) fun e w' => ∃ A c, e = .returned (.tuple #[.slice A 2 c, .int .i64 0]) ∧ OwnE w' W.heap.size (.slice A 2 c) [⟨1, 1, wTwo, wFour⟩, ⟨2, 2, wThree, noW⟩] ∧ Below W.heap.size W w' := by
  have hB1 : Below (W.alloc (.cells (strs [wOne, wTwo, wThree]).toArray 9)).heap.size (W.alloc (.cells (strs [wOne, wTwo, wThree]).toArray 9)) ((W.alloc (.cells (strs [wOne, wTwo, wThree]).toArray 9)).alloc (.cells (strs [wOne, wFour]).toArray 9)) := (Below.refl _ _).alloc (Nat.le_refl _) _
  have hB0 : Below W.heap.size W ((W.alloc (.cells (strs [wOne, wTwo, wThree]).toArray 9)).alloc (.cells (strs [wOne, wFour]).toArray 9)) := ((Below.refl W.heap.size W).alloc (Nat.le_refl _) _).trans (hB1.mono (by simp))
  have s1 := (ER.below (SR.new W [wOne, wTwo, wThree]) hB1 (Nat.le_refl _)).more hB1.size
  have s2 := SR.newA (W := W.alloc (.cells (strs [wOne, wTwo, wThree]).toArray 9)) (b := W.heap.size + 1) [wOne, wFour] (World.size_alloc _ _)
  have h := Align_any (some ⟨W.heap.size, 0, none⟩) (some ⟨W.heap.size + 1, 0, none⟩) 3 2 [wOne, wTwo, wThree] [wOne, wFour] _ (SzOk.small (by decide)) (SzOk.small (by decide)) s1 s2
  refine h.mono ?_
  rintro e w' ⟨v, rfl, ho, hb⟩
  rw [known_align, if_pos rfl, known_alL] at ho
  obtain ⟨A, c, rfl⟩ := own_shape ho
  refine ⟨A, c, by rw [known_align]; rfl, ho.low (by simp; omega), hB0.trans (hb.mono hB0.size)⟩
theorem known_m (W : World) : Calls Tryd.prog 22 #[.slice (some ⟨W.heap.size, 0, none⟩) 3 3, .slice (some ⟨W.heap.size + 1, 0, none⟩) 4 4, .slice (some ⟨W.heap.size + 1 + 1, 0, none⟩) 2 2] (((W.alloc (.cells (strs [wLay, wThe, wBricks]).toArray 9)).alloc (.cells (strs [wLay, wThe, wRed, wBricks]).toArray 9)).alloc (.cells (strs [wLay, wBricks]).toArray 9)) fun e w' => ∃ A c, e = .returned (.tuple #[.slice A 3 c, .int .i64 0, .int .i64 0]) ∧ OwnS w' W.heap.size (.slice A 3 c) [wLay, wRed, wBricks] ∧ Below W.heap.size W w' := by
  have hB1 : Below (W.alloc (.cells (strs [wLay, wThe, wBricks]).toArray 9)).heap.size (W.alloc (.cells (strs [wLay, wThe, wBricks]).toArray 9)) ((W.alloc (.cells (strs [wLay, wThe, wBricks]).toArray 9)).alloc (.cells (strs [wLay, wThe, wRed, wBricks]).toArray 9)) := (Below.refl _ _).alloc (Nat.le_refl _) _
  have hB2 : Below ((W.alloc (.cells (strs [wLay, wThe, wBricks]).toArray 9)).alloc (.cells (strs [wLay, wThe, wRed, wBricks]).toArray 9)).heap.size ((W.alloc (.cells (strs [wLay, wThe, wBricks]).toArray 9)).alloc (.cells (strs [wLay, wThe, wRed, wBricks]).toArray 9)) (((W.alloc (.cells (strs [wLay, wThe, wBricks]).toArray 9)).alloc (.cells (strs [wLay, wThe, wRed, wBricks]).toArray 9)).alloc (.cells (strs [wLay, wBricks]).toArray 9)) := (Below.refl _ _).alloc (Nat.le_refl _) _
  have hB12 := hB1.trans (hB2.mono hB1.size)
  have hB0 : Below W.heap.size W (((W.alloc (.cells (strs [wLay, wThe, wBricks]).toArray 9)).alloc (.cells (strs [wLay, wThe, wRed, wBricks]).toArray 9)).alloc (.cells (strs [wLay, wBricks]).toArray 9)) := ((Below.refl W.heap.size W).alloc (Nat.le_refl _) _).trans (hB12.mono (by simp))
  have s1 := (ER.below (SR.new W [wLay, wThe, wBricks]) hB12 (Nat.le_refl _)).more hB12.size
  have s2 := (ER.below (SR.newA (W := W.alloc (.cells (strs [wLay, wThe, wBricks]).toArray 9)) (b := W.heap.size + 1) [wLay, wThe, wRed, wBricks] (World.size_alloc _ _)) hB2 (Nat.le_refl _)).more hB2.size
  have s3 := SR.newA (W := (W.alloc (.cells (strs [wLay, wThe, wBricks]).toArray 9)).alloc (.cells (strs [wLay, wThe, wRed, wBricks]).toArray 9)) (b := W.heap.size + 1 + 1) [wLay, wBricks] (by simp only [World.size_alloc])
  have h := Merge_any (some ⟨W.heap.size, 0, none⟩) (some ⟨W.heap.size + 1, 0, none⟩) (some ⟨W.heap.size + 1 + 1, 0, none⟩) 3 4 2 [wLay, wThe, wBricks] [wLay, wThe, wRed, wBricks] [wLay, wBricks] _ (SzOk.small (by decide)) (SzOk.small (by decide)) (SzOk.small (by decide)) s1 s2 s3 (Nat.le_refl _) (by unfold maxLen; decide)
  refine h.mono ?_
  rintro e w' ⟨v, rfl, ho, hb⟩
  rw [known_merge] at ho ⊢
  obtain ⟨A, c, rfl⟩ := own_shape ho
  refine ⟨A, c, rfl, ownMono ho (by simp; omega), hB0.trans (hb.mono hB0.size)⟩
theorem known_r (W : World) : Calls Tryd.prog 25 #[.slice (some ⟨W.heap.size, 0, none⟩) 4 4, .slice (some ⟨W.heap.size + 1, 0, none⟩) 4 4] ((W.alloc (.cells (intJ [-1, 0, 0, 0]).toArray 3)).alloc (.cells (intJ [-1, 5, 7, 7]).toArray 3)) fun e w' => ∃ A c, e = .returned (.tuple #[.slice A 4 c, .int .i64 1, .int .i64 0]) ∧ OwnJ w' W.heap.size (.slice A 4 c) [7, 5, 7, 7] ∧ Below W.heap.size W w' := by
  have hB1 : Below (W.alloc (.cells (intJ [-1, 0, 0, 0]).toArray 3)).heap.size (W.alloc (.cells (intJ [-1, 0, 0, 0]).toArray 3)) ((W.alloc (.cells (intJ [-1, 0, 0, 0]).toArray 3)).alloc (.cells (intJ [-1, 5, 7, 7]).toArray 3)) := (Below.refl _ _).alloc (Nat.le_refl _) _
  have hB0 : Below W.heap.size W ((W.alloc (.cells (intJ [-1, 0, 0, 0]).toArray 3)).alloc (.cells (intJ [-1, 5, 7, 7]).toArray 3)) := ((Below.refl W.heap.size W).alloc (Nat.le_refl _) _).trans (hB1.mono (by simp))
  have s1 := (ER.below (LI.new W [-1, 0, 0, 0]) hB1 (Nat.le_refl _)).more hB1.size
  have s2 := LI.newA (W := W.alloc (.cells (intJ [-1, 0, 0, 0]).toArray 3)) (b := W.heap.size + 1) [-1, 5, 7, 7] (World.size_alloc _ _)
  have h := Restore_any (some ⟨W.heap.size, 0, none⟩) (some ⟨W.heap.size + 1, 0, none⟩) 4 4 [-1, 0, 0, 0] [-1, 5, 7, 7] _ s1 s2
  refine h.mono ?_
  rintro e w' ⟨v, rfl, ho, hb⟩
  rw [known_rs] at ho ⊢
  obtain ⟨A, c, rfl⟩ := own_shape ho
  refine ⟨A, c, rfl, ownMono ho (by simp; omega), hB0.trans (hb.mono hB0.size)⟩
theorem known_d (b : Nat) (W : World) (hd : ScR W W.heap.size (hdD b) hdS) (x : Int) (r : Int × Int × List Int) (hr : decR hdS [1, x] 0 = r) : Calls Tryd.prog 39 #[scV (hdD b) hdS, .slice (some ⟨W.heap.size, 0, none⟩) 2 2, .int .i64 0] (W.alloc (.cells (intJ [1, x]).toArray 3)) (DePost W r) := by
  have hB1 : Below W.heap.size W (W.alloc (.cells (intJ [1, x]).toArray 3)) := (Below.refl _ _).alloc (Nat.le_refl _) _
  have h := Decide_any (hdD b) hdS (some ⟨W.heap.size, 0, none⟩) 2 [1, x] 0 (W.alloc (.cells (intJ [1, x]).toArray 3)) (hd.below hB1) (by unfold maxLen; decide) (by unfold maxLen; decide) (LI.new W [1, x])
  refine h.mono ?_
  rintro e w' ⟨v, rfl, ho, hb⟩
  rw [hr] at ho ⊢
  exact ⟨v, rfl, ownMono ho hB1.size, hB1.trans (hb.mono hB1.size)⟩
theorem OwnS.sr {W : World} {n0 : Nat} {A : Option Addr} {n c : Nat} {l : List Wd} (h : OwnS W n0 (.slice A n c) l) : n = l.length ∧ SR W W.heap.size A l := by
  obtain ⟨A', c', e⟩ := own_shape h
  injection e with e1 e2 e3
  subst e2
  refine ⟨rfl, fun hn => ?_⟩
  rcases h.2 with ⟨h1, h2⟩ | ⟨g, cap, cur, h1, h2, h3, h4, h5, h6, h7⟩
  · omega
  · injection h1 with hA
    subst hA
    have hg := (World.ownsRow.lt h g rfl).2
    refine ⟨g, 0, rfl, hg, fun k i hk hi => ?_⟩
    obtain rfl : i = 0 := by omega
    have hc := World.ownsRow.cells h (g := g) rfl k _ (strs_at l hk)
    have e1 : ((⟨g, 0, none⟩ : Addr).add k) = ⟨g, 0 + k * 1 + 0, none⟩ := by simp [Addr.add]; omega
    rw [e1] at hc
    exact hc
theorem known_f (b1 b2 : Nat) (W : World) (h1 : ScR W W.heap.size (hdD b1) hdS) (h2 : ScR W W.heap.size (hdD b2) hdS) : Calls Tryd.prog 32 #[scV (hdD b1) hdS, .agg #[.slice (some ⟨b2 + 1, 0, none⟩) 2 2, .int .i64 1, .slice (some ⟨b2 + 1 + 1 + 1 + 1, 0, none⟩) 2 3], .int .i64 0] W fun e w' => ∃ A c, e = .returned (.tuple #[.slice A 2 c, .int .i64 0]) ∧ OwnJ w' W.heap.size (.slice A 2 c) [0, 0] ∧ Below W.heap.size W w' := by
  have h3 : ScR W W.heap.size (hdD b2) ldS := by
    refine ⟨h2.fs, ⟨fun _ => ?_, fun k hk => ?_⟩⟩
    · obtain ⟨b, off, e1, e2, e3⟩ := h2.rs.row (by decide)
      refine ⟨b, off, e1, e2, fun k i hk hi => ?_⟩
      have hk : k < 2 := hk
      rw [e3 k i (by show k < 3; omega) hi]
      rcases (by omega : k = 0 ∨ k = 1) with rfl | rfl <;> rfl
    · have hk : k < 2 := hk
      have h := h2.rs.tests k (by show k < 3; omega)
      rcases (by omega : k = 0 ∨ k = 1) with rfl | rfl <;> exact h
  have h := Differ_any (hdD b1) (hdD b2) hdS ldS 0 W h1 h3 (by unfold maxLen; decide) (by unfold maxLen; decide) (by unfold maxLen; decide) (by unfold maxLen; decide)
  refine Calls.mono (show Calls Tryd.prog 32 #[scV (hdD b1) hdS, .agg #[.slice (some ⟨b2 + 1, 0, none⟩) 2 2, .int .i64 1, .slice (some ⟨b2 + 1 + 1 + 1 + 1, 0, none⟩) 2 3], .int .i64 0] W _ from h) ?_
  rintro e w' ⟨v, rfl, ho, hb⟩
  rw [known_df] at ho ⊢
  obtain ⟨A, c, rfl⟩ := own_shape ho
  exact ⟨A, c, rfl, ho, hb⟩
theorem known_any (w : World) : Calls Tryd.prog 15 #[] w fun e w' => e = .returned (.bool true) ∧ Below w.heap.size w w' := by
  go_enter Tryd.func15, Tryd.ntmps15
  go_wp2_with fail
  refine (known_a w).mono ?_
  rintro e w1 ⟨A1, c1, rfl, ho1, hb1⟩
  have O1 := hide ho1
  have B1 := hide hb1
  clear ho1 hb1
  go_wp2_with fail
  refine (known_m w1).mono ?_
  rintro e w2 ⟨A2, c2, rfl, ho2, hb2⟩
  have O1 := hide (O1.out.ext hb2)
  have O2 := hide ho2
  have B2 := hide (B1.out.trans (hb2.mono B1.out.size))
  clear ho2 hb2 B1
  go_wp2_with fail
  refine (known_r w2).mono ?_
  rintro e w3 ⟨A3, c3, rfl, ho3, hb3⟩
  have O1 := hide (O1.out.ext hb3)
  have O2 := hide (O2.out.ext hb3)
  have O3 := hide ho3
  have B3 := hide (B2.out.trans (hb3.mono B2.out.size))
  clear ho3 hb3 B2
  go_wp2_with fail
  refine (hundred_any w3).mono ?_
  rintro e w4 ⟨rfl, hsc, hb4⟩
  have O1 := hide (O1.out.ext hb4)
  have O2 := hide (O2.out.ext hb4)
  have O3 := hide (OwnJ.ext O3.out hb4)
  have B4 := hide (B3.out.trans (hb4.mono B3.out.size))
  have HSC := hide hsc
  clear hsc hb4 B3
  go_wp2_with fail
  refine (known_d w3.heap.size w4 HSC.out 1 _ known_dec1).mono ?_
  rintro e w5 ⟨v5, rfl, ho5, hb5⟩
  dsimp only at ho5 ⊢
  obtain ⟨A5, c5, rfl⟩ := own_shape ho5
  have O1 := hide (O1.out.ext hb5)
  have O2 := hide (O2.out.ext hb5)
  have O3 := hide (OwnJ.ext O3.out hb5)
  have O5 := hide ho5
  have B5 := hide (B4.out.trans (hb5.mono B4.out.size))
  clear ho5 hb5 B4 HSC
  go_wp2_with fail
  refine (hundred_any w5).mono ?_
  rintro e w6 ⟨rfl, hsc, hb6⟩
  have O1 := hide (O1.out.ext hb6)
  have O2 := hide (O2.out.ext hb6)
  have O3 := hide (OwnJ.ext O3.out hb6)
  have O5 := hide (OwnJ.ext O5.out hb6)
  have B6 := hide (B5.out.trans (hb6.mono B5.out.size))
  have HSC := hide hsc
  clear hsc hb6 B5
  go_wp2_with fail
  obtain ⟨⟨r1, r2, r3⟩, hr⟩ : ∃ r, decR hdS [1, 0] 0 = r := ⟨_, rfl⟩
  have hr2 : r2 = 110 := by have := known_dec2; rw [hr] at this; exact this
  subst hr2
  refine (known_d w5.heap.size w6 HSC.out 0 _ hr).mono ?_
  rintro e w7 ⟨v7, rfl, -, hb7⟩
  dsimp only
  have O1 := hide (O1.out.ext hb7)
  have O2 := hide (O2.out.ext hb7)
  have O3 := hide (OwnJ.ext O3.out hb7)
  have O5 := hide (OwnJ.ext O5.out hb7)
  have B7 := hide (B6.out.trans (hb7.mono B6.out.size))
  clear hb7 B6 HSC hr
  obtain ⟨eb, eo, rfl, -, x0, x1, x2, x3⟩ := (O1.out.edS).2.at_ (k := 1) (by decide) rfl
  obtain ⟨sb, so, rfl, -, y1⟩ := VR1.at_ (k := 1) (O2.out.sr).2 (by decide)
  replace x0 : w7.cell? ⟨eb, eo + 4, none⟩ = some (.int .i64 2) := x0
  replace x1 : w7.cell? ⟨eb, eo + 4 + 1, none⟩ = some (.int .i64 2) := x1
  replace x2 : w7.cell? ⟨eb, eo + 4 + 2, none⟩ = some (.string ⟨#[116, 104, 114, 101, 101]⟩) := x2
  replace x3 : w7.cell? ⟨eb, eo + 4 + 3, none⟩ = some (.string ⟨#[]⟩) := x3
  replace y1 : w7.cell? ⟨sb, so + 1, none⟩ = some (.string ⟨#[114, 101, 100]⟩) := y1
  go_upto_region 8 with fail
  clear x0 x1 x2 x3 y1
  go_wp2_with fail
  refine (hundred_any w7).mono ?_
  rintro e w8 ⟨rfl, hsc, hb8⟩
  have e8 : scV (hdD w7.heap.size) hdS = .agg #[.slice (some ⟨w7.heap.size + 1, 0, none⟩) 2 2, .int .i64 1, .slice (some ⟨w7.heap.size + 1 + 1 + 1 + 1, 0, none⟩) 3 3] := rfl
  rw [e8]
  have O3 := hide (OwnJ.ext O3.out hb8)
  have O5 := hide (OwnJ.ext O5.out hb8)
  have B8 := hide (B7.out.trans (hb8.mono B7.out.size))
  have HSC := hide hsc
  generalize w7.heap.size = b7 at HSC ⊢
  clear hsc hb8 B7 O1 O2 e8
  go_upto_region 10 with fail
  have hT := Blk.new w8 47 #[.slice (some ⟨b7 + 1, 0, none⟩) 2 2, .int .i64 1, .slice (some ⟨b7 + 1 + 1 + 1 + 1, 0, none⟩) 2 3]
  have hb9 : Below w8.heap.size w8 (w8.alloc (.cells #[.slice (some ⟨b7 + 1, 0, none⟩) 2 2, .int .i64 1, .slice (some ⟨b7 + 1 + 1 + 1 + 1, 0, none⟩) 2 3] 47)) := (Below.refl _ _).alloc (Nat.le_refl _) _
  have O3 := hide (OwnJ.ext O3.out hb9)
  have O5 := hide (OwnJ.ext O5.out hb9)
  have B9 := hide (B8.out.trans (hb9.mono B8.out.size))
  have HSC := hide (HSC.out.below hb9)
  clear hb9 B8
  generalize (w8.alloc (.cells #[.slice (some ⟨b7 + 1, 0, none⟩) 2 2, .int .i64 1, .slice (some ⟨b7 + 1 + 1 + 1 + 1, 0, none⟩) 2 3] 47)) = w9 at hT O3 O5 B9 HSC ⊢
  generalize w8.heap.size = T at hT ⊢
  have HS : Hid (∀ W, Below w9.heap.size w9 W → W.cell? ⟨T, 0, none⟩ = some (.slice (some ⟨b7 + 1, 0, none⟩) 2 2) ∧ W.cell? ⟨T, 1, none⟩ = some (.int .i64 1) ∧ W.cell? ⟨T, 2, none⟩ = some (.slice (some ⟨b7 + 1 + 1 + 1 + 1, 0, none⟩) 2 3)) := hide fun W h => (fun x => ⟨x.2.1, x.2.2.1, x.2.2.2.1⟩) (blk3 (hT.ext h))
  clear hT
  have Bd := hide ((Below.refl w9.heap.size w9).drew)
  refine wp_region_J (fun W : World => W.cell? ⟨T, 0, none⟩ = some (.slice (some ⟨b7 + 1, 0, none⟩) 2 2) ∧ W.cell? ⟨T, 1, none⟩ = some (.int .i64 1) ∧ W.cell? ⟨T, 2, none⟩ = some (.slice (some ⟨b7 + 1 + 1 + 1 + 1, 0, none⟩) 2 3)) (by kernel_rfl) ?_
  generalize w9.drew = wd at Bd ⊢
  refine wpAnyJ_take 1 (v := ?_) (by first | exact hF | exact wideFn) (HS.out _ Bd.out) rfl (by kernel_rfl) (by kernel_rfl) (by kernel_rfl) (by kernel_rfl) rfl ?_ (by first | exact fun _ _ _ h => h | exact fun _ _ _ h => hQ2 _ _ _ _ _ h) ?_
  rotate_left
  · intro W hSW
    simp only [glA, glB, glC]
    (try dsimp only at hSW)
    go_simp
    with_reducible rfl
  (try simp only [glA, glB, glC, Act.put, glD, glE, glF])
  refine wpAnyJ_one 0 rfl (by kernel_rfl) (fun K hK => ?_)
  simp only [glA, glB, glC]
  go_simp
  refine ⟨trivial, rfl, ?_⟩
  (with_reducible refine (callsIn_wide.2 (hundred_any wd)).mono ?_)
  rintro e w10 ⟨rfl, hsc10, hb10⟩
  have Be := hide (Bd.out.trans (hb10.mono Bd.out.size))
  dsimp only
  refine hK.out _ _ (fun _ => HS.out _ Be.out) ?_
  clear hK K
  (try simp only [glA, glB, glC, Act.put, glD, glE, glF])
  have HKF := hide (known_f wd.heap.size b7 w10 hsc10 ((HSC.out.below Bd.out).below hb10))
  clear hsc10
  refine wpAnyJ_one 2 rfl (by kernel_rfl) (fun K hK => ?_)
  simp only [glA, glB, glC]
  go_simp
  refine ⟨trivial, rfl, ?_⟩
  (with_reducible refine (callsIn_wide.2 HKF.out).mono ?_)
  rintro e w11 ⟨A6, c6, rfl, ho11, hb11⟩
  have Bf := hide (Be.out.trans (hb11.mono Be.out.size))
  dsimp only
  refine hK.out _ _ (fun _ => HS.out _ Bf.out) ?_
  clear hK K
  (try simp only [glA, glB, glC, Act.put, glD, glE, glF])
  refine wpAnyJ_take 3 (v := ?_) (by first | exact hF | exact wideFn) (HS.out _ Bf.out) rfl (by kernel_rfl) (by kernel_rfl) (by kernel_rfl) (by kernel_rfl) rfl ?_ (by first | exact fun _ _ _ h => h | exact fun _ _ _ h => hQ2 _ _ _ _ _ h) ?_
  rotate_left
  · intro W hSW
    simp only [glA, glB, glC]
    (try dsimp only at hSW)
    go_simp
    with_reducible rfl
  (try simp only [glA, glB, glC, Act.put, glD, glE, glF])
  refine wpAnyJ_take 4 (v := ?_) (by first | exact hF | exact wideFn) (HS.out _ Bf.out) rfl (by kernel_rfl) (by kernel_rfl) (by kernel_rfl) (by kernel_rfl) rfl ?_ (by first | exact fun _ _ _ h => h | exact fun _ _ _ h => hQ2 _ _ _ _ _ h) ?_
  rotate_left
  · intro W hSW
    simp only [glA, glB, glC]
    (try dsimp only at hSW)
    go_simp
    with_reducible rfl
  (try simp only [glA, glB, glC, Act.put, glD, glE, glF])
  refine wpAnyJ_take 5 (v := ?_) (by first | exact hF | exact wideFn) (HS.out _ Bf.out) rfl (by kernel_rfl) (by kernel_rfl) (by kernel_rfl) (by kernel_rfl) rfl ?_ (by first | exact fun _ _ _ h => h | exact fun _ _ _ h => hQ2 _ _ _ _ _ h) ?_
  rotate_left
  · intro W hSW
    simp only [glA, glB, glC]
    (try dsimp only at hSW)
    go_simp
    with_reducible rfl
  (try simp only [glA, glB, glC, Act.put, glD, glE, glF])
  refine wpAnyJ_take 6 (v := ?_) (by first | exact hF | exact wideFn) (HS.out _ Bf.out) rfl (by kernel_rfl) (by kernel_rfl) (by kernel_rfl) (by kernel_rfl) rfl ?_ (by first | exact fun _ _ _ h => h | exact fun _ _ _ h => hQ2 _ _ _ _ _ h) ?_
  rotate_left
  · intro W hSW
    simp only [glA, glB, glC]
    (try dsimp only at hSW)
    go_simp
    with_reducible rfl
  (try simp only [glA, glB, glC, Act.put, glD, glE, glF])
  refine wpAnyJ_take 7 (v := ?_) (by first | exact hF | exact wideFn) (HS.out _ Bf.out) rfl (by kernel_rfl) (by kernel_rfl) (by kernel_rfl) (by kernel_rfl) rfl ?_ (by first | exact fun _ _ _ h => h | exact fun _ _ _ h => hQ2 _ _ _ _ _ h) ?_
  rotate_left
  · intro W hSW
    simp only [glA, glB, glC]
    (try dsimp only at hSW)
    go_simp
    with_reducible rfl
  (try simp only [glA, glB, glC, Act.put, glD, glE, glF])
  refine wpAnyJ_done (by kernel_rfl) ?_
  have O3 := hide (OwnJ.ext O3.out Bf.out)
  have O5 := hide (OwnJ.ext O5.out Bf.out)
  have O6 := hide ho11
  have B11 := hide (B9.out.trans (Bf.out.mono B9.out.size))
  clear ho11 hb10 hb11 B9 Be Bf Bd HS HSC HKF
  obtain ⟨ab, ao, rfl, -, x0⟩ := VR1.at_ (k := 0) (O3.out.li).2 (by decide)
  obtain ⟨bb, bo, rfl, -, y0⟩ := VR1.at_ (k := 0) (O5.out.li).2 (by decide)
  obtain ⟨cb, co, hcc, -, z0⟩ := VR1.at_ (k := 0) (O6.out.li).2 (by decide)
  obtain ⟨cb', co', hcc', -, z1⟩ := VR1.at_ (k := 1) (O6.out.li).2 (by decide)
  subst hcc
  injection hcc' with hcc'
  injection hcc' with hcc1 hcc2
  subst hcc1
  subst hcc2
  replace x0 : w11.cell? ⟨ab, ao, none⟩ = some (.int .i64 7) := x0
  replace y0 : w11.cell? ⟨bb, bo, none⟩ = some (.int .i64 1) := y0
  replace z0 : w11.cell? ⟨cb, co, none⟩ = some (.int .i64 0) := z0
  replace z1 : w11.cell? ⟨cb, co + 1, none⟩ = some (.int .i64 0) := z1
  go_wp2_with fail
  go_ret
  exact ⟨rfl, B11.out⟩
end Go.Proofs.YtmpegkojencbjaaDoor
