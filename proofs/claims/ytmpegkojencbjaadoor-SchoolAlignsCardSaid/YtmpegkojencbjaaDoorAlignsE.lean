/- School: the editor's edit, walked. -/
import Derived.Test.YtmpegkojencbjaaDoorAlignsD
set_option linter.unusedSimpArgs false
set_option linter.unusedVariables false
set_option linter.unnecessarySimpa false
namespace Go.Proofs.YtmpegkojencbjaaDoor
open List (getElem_toArray getElem_cons_zero getElem_cons_succ setIfInBounds_toArray set_cons_zero set_cons_succ)
open Go Go.RowKit Go.Shelf
set_option maxHeartbeats 4000000
set_option maxRecDepth 100000
def edE (a : List Wd) (e : Ed) : Int := if (a.length : Int) < e.at_ ∨ (e.at_ = a.length ∧ e.ki ≠ 3) then 3 else if e.ki ≠ 3 ∧ a.getD e.at_.toNat noW ≠ e.old then 111 else 0
def edI (i : Nat) (e : Ed) : Nat := if e.ki = 3 then e.at_.toNat else e.at_.toNat + 1
def edL (a : List Wd) (i : Nat) (e : Ed) (l : List Wd) : List Wd := takeL a i e.at_.toNat l ++ if e.ki = 2 then [] else [e.new]
theorem edit_no (W : World) (X : Nat) (A : Option Addr) (c : Nat) (a : List Wd) (u v : Value) (ki : Int) (t : Nat) (old new : Wd) (hX : Blk W X 92 #[.slice A a.length c, u, v]) (hc : (a.length : Int) < t ∨ ((t : Int) = a.length ∧ ki ≠ 3)) :
    Calls Tryd.prog 56 #[.pointer (some ⟨X, 0, none⟩), .agg #[.int .i64 ki, .int .i64 (t : Nat), .string old, .string new]] W fun e w' => e = .returned (.int .i64 3) ∧ Below W.heap.size W w' := by
  have HB0 := hide ((Below.refl W.heap.size W).alloc (Nat.le_refl _) (.cells #[.int .i64 ki, .int .i64 (t : Nat), .string old, .string new] 86))
  have E1 := Blk.new W 86 #[.int .i64 ki, .int .i64 (t : Nat), .string old, .string new]
  have X1 := hX.alloc (.cells #[.int .i64 ki, .int .i64 (t : Nat), .string old, .string new] 86)
  obtain ⟨n, hn⟩ : ∃ n, a.length = n := ⟨_, rfl⟩
  rw [hn] at hc X1
  obtain ⟨g, hg⟩ : ∃ g, W.heap.size = g := ⟨_, rfl⟩
  rw [hg] at E1 HB0 ⊢
  obtain ⟨w1, hw1⟩ : ∃ w1, W.alloc (.cells #[.int .i64 ki, .int .i64 (t : Nat), .string old, .string new] 86) = w1 := ⟨_, rfl⟩
  rw [hw1] at E1 X1 HB0
  have HS1 : Hid (∀ V, Below w1.heap.size w1 V → V.cell? ⟨X, 0, none⟩ = some (.slice A n c) ∧ V.cell? ⟨g, 0, none⟩ = some (.int .i64 ki) ∧ V.cell? ⟨g, 1, none⟩ = some (.int .i64 (t : Nat)) ∧ V.cell? ⟨g, 2, none⟩ = some (.string old) ∧ V.cell? ⟨g, 3, none⟩ = some (.string new)) := hide (fun V h => ⟨(blk3 (X1.ext h)).2.1, (blk4 (E1.ext h)).2⟩)
  clear E1 X1 hX
  by_cases h1 : (n : Int) < (t : Int)
  · go_enter Tryd.func56, Tryd.ntmps56
    go_upto_region 1 with fail
    have HBD := hide ((Below.refl w1.heap.size w1).drew)
    refine wp_region_J (fun W : World => W.cell? ⟨X, 0, none⟩ = some (.slice A n c) ∧ W.cell? ⟨g, 0, none⟩ = some (.int .i64 ki) ∧ W.cell? ⟨g, 1, none⟩ = some (.int .i64 (t : Nat)) ∧ W.cell? ⟨g, 2, none⟩ = some (.string old) ∧ W.cell? ⟨g, 3, none⟩ = some (.string new)) (by kernel_rfl) ?_
    generalize w1.drew = wd at HBD ⊢
    have hs1 := HS1.out _ HBD.out
    refine wpAnyJ_take 0 (v := ?_) (by first | exact hF | exact wideFn) (hs1) rfl (by kernel_rfl) (by kernel_rfl) (by kernel_rfl) (by kernel_rfl) rfl ?_ (by first | exact fun _ _ _ h => h | exact fun _ _ _ h => hQ2 _ _ _ _ _ h) ?_
    rotate_left
    · intro W hSW
      simp only [getElem_toArray, getElem_cons_zero, getElem_cons_succ]
      (try dsimp only at hSW)
      go_simp
      with_reducible rfl
    (try simp only [getElem_toArray, getElem_cons_zero, getElem_cons_succ, Act.put, setIfInBounds_toArray, set_cons_zero, set_cons_succ])
    refine wpAnyJ_take 1 (v := ?_) (by first | exact hF | exact wideFn) (hs1) rfl (by kernel_rfl) (by kernel_rfl) (by kernel_rfl) (by kernel_rfl) rfl ?_ (by first | exact fun _ _ _ h => h | exact fun _ _ _ h => hQ2 _ _ _ _ _ h) ?_
    rotate_left
    · intro W hSW
      simp only [getElem_toArray, getElem_cons_zero, getElem_cons_succ]
      (try dsimp only at hSW)
      go_simp
      with_reducible rfl
    (try simp only [getElem_toArray, getElem_cons_zero, getElem_cons_succ, Act.put, setIfInBounds_toArray, set_cons_zero, set_cons_succ])
    refine wpAnyJ_take 2 (v := ?_) (by first | exact hF | exact wideFn) (hs1) rfl (by kernel_rfl) (by kernel_rfl) (by kernel_rfl) (by kernel_rfl) rfl ?_ (by first | exact fun _ _ _ h => h | exact fun _ _ _ h => hQ2 _ _ _ _ _ h) ?_
    rotate_left
    · intro W hSW
      simp only [getElem_toArray, getElem_cons_zero, getElem_cons_succ]
      (try dsimp only at hSW)
      go_simp
      with_reducible rfl
    (try simp only [getElem_toArray, getElem_cons_zero, getElem_cons_succ, Act.put, setIfInBounds_toArray, set_cons_zero, set_cons_succ])
    refine wpAnyJ_take 3 (v := ?_) (by first | exact hF | exact wideFn) (hs1) rfl (by kernel_rfl) (by kernel_rfl) (by kernel_rfl) (by kernel_rfl) rfl ?_ (by first | exact fun _ _ _ h => h | exact fun _ _ _ h => hQ2 _ _ _ _ _ h) ?_
    rotate_left
    · intro W hSW
      simp only [getElem_toArray, getElem_cons_zero, getElem_cons_succ]
      (try dsimp only at hSW)
      go_simp
      with_reducible rfl
    (try simp only [getElem_toArray, getElem_cons_zero, getElem_cons_succ, Act.put, setIfInBounds_toArray, set_cons_zero, set_cons_succ])
    refine wpAnyJ_take 4 (v := ?_) (by first | exact hF | exact wideFn) (hs1) rfl (by kernel_rfl) (by kernel_rfl) (by kernel_rfl) (by kernel_rfl) rfl ?_ (by first | exact fun _ _ _ h => h | exact fun _ _ _ h => hQ2 _ _ _ _ _ h) ?_
    rotate_left
    · intro W hSW
      simp only [getElem_toArray, getElem_cons_zero, getElem_cons_succ]
      (try dsimp only at hSW)
      go_simp
      with_reducible rfl
    (try simp only [getElem_toArray, getElem_cons_zero, getElem_cons_succ, Act.put, setIfInBounds_toArray, set_cons_zero, set_cons_succ])
    refine wpAnyJ_take 5 (v := ?_) (by first | exact hF | exact wideFn) (hs1) rfl (by kernel_rfl) (by kernel_rfl) (by kernel_rfl) (by kernel_rfl) rfl ?_ (by first | exact fun _ _ _ h => h | exact fun _ _ _ h => hQ2 _ _ _ _ _ h) ?_
    rotate_left
    · intro W hSW
      simp only [getElem_toArray, getElem_cons_zero, getElem_cons_succ]
      (try dsimp only at hSW)
      go_simp
      with_reducible rfl
    (try simp only [getElem_toArray, getElem_cons_zero, getElem_cons_succ, Act.put, setIfInBounds_toArray, set_cons_zero, set_cons_succ])
    refine wpAnyJ_take 6 (v := ?_) (by first | exact hF | exact wideFn) (hs1) rfl (by kernel_rfl) (by kernel_rfl) (by kernel_rfl) (by kernel_rfl) rfl ?_ (by first | exact fun _ _ _ h => h | exact fun _ _ _ h => hQ2 _ _ _ _ _ h) ?_
    rotate_left
    · intro W hSW
      simp only [getElem_toArray, getElem_cons_zero, getElem_cons_succ]
      (try dsimp only at hSW)
      go_simp
      with_reducible rfl
    (try simp only [getElem_toArray, getElem_cons_zero, getElem_cons_succ, Act.put, setIfInBounds_toArray, set_cons_zero, set_cons_succ])
    refine wpAnyJ_take 7 (v := ?_) (by first | exact hF | exact wideFn) (hs1) rfl (by kernel_rfl) (by kernel_rfl) (by kernel_rfl) (by kernel_rfl) rfl ?_ (by first | exact fun _ _ _ h => h | exact fun _ _ _ h => hQ2 _ _ _ _ _ h) ?_
    rotate_left
    · intro W hSW
      simp only [getElem_toArray, getElem_cons_zero, getElem_cons_succ]
      (try dsimp only at hSW)
      go_simp
      with_reducible rfl
    (try simp only [getElem_toArray, getElem_cons_zero, getElem_cons_succ, Act.put, setIfInBounds_toArray, set_cons_zero, set_cons_succ])
    refine wpAnyJ_take 8 (v := ?_) (by first | exact hF | exact wideFn) (hs1) rfl (by kernel_rfl) (by kernel_rfl) (by kernel_rfl) (by kernel_rfl) rfl ?_ (by first | exact fun _ _ _ h => h | exact fun _ _ _ h => hQ2 _ _ _ _ _ h) ?_
    rotate_left
    · intro W hSW
      simp only [getElem_toArray, getElem_cons_zero, getElem_cons_succ]
      (try dsimp only at hSW)
      go_simp
      with_reducible rfl
    (try simp only [getElem_toArray, getElem_cons_zero, getElem_cons_succ, Act.put, setIfInBounds_toArray, set_cons_zero, set_cons_succ])
    refine wpAnyJ_skip 9 (by first | exact hF | exact wideFn) (hs1) rfl (by kernel_rfl) (by kernel_rfl) (by kernel_rfl) (by kernel_rfl) rfl (by first | exact fun _ _ _ h => h | exact fun _ _ _ h => hQ2 _ _ _ _ _ h) ?_
    (try simp only [getElem_toArray, getElem_cons_zero, getElem_cons_succ, Act.put, setIfInBounds_toArray, set_cons_zero, set_cons_succ])
    refine wpAnyJ_skip 10 (by first | exact hF | exact wideFn) (hs1) rfl (by kernel_rfl) (by kernel_rfl) (by kernel_rfl) (by kernel_rfl) rfl (by first | exact fun _ _ _ h => h | exact fun _ _ _ h => hQ2 _ _ _ _ _ h) ?_
    (try simp only [getElem_toArray, getElem_cons_zero, getElem_cons_succ, Act.put, setIfInBounds_toArray, set_cons_zero, set_cons_succ])
    refine wpAnyJ_skip 11 (by first | exact hF | exact wideFn) (hs1) rfl (by kernel_rfl) (by kernel_rfl) (by kernel_rfl) (by kernel_rfl) rfl (by first | exact fun _ _ _ h => h | exact fun _ _ _ h => hQ2 _ _ _ _ _ h) ?_
    (try simp only [getElem_toArray, getElem_cons_zero, getElem_cons_succ, Act.put, setIfInBounds_toArray, set_cons_zero, set_cons_succ])
    refine wpAnyJ_skip 12 (by first | exact hF | exact wideFn) (hs1) rfl (by kernel_rfl) (by kernel_rfl) (by kernel_rfl) (by kernel_rfl) rfl (by first | exact fun _ _ _ h => h | exact fun _ _ _ h => hQ2 _ _ _ _ _ h) ?_
    (try simp only [getElem_toArray, getElem_cons_zero, getElem_cons_succ, Act.put, setIfInBounds_toArray, set_cons_zero, set_cons_succ])
    refine wpAnyJ_skip 13 (by first | exact hF | exact wideFn) (hs1) rfl (by kernel_rfl) (by kernel_rfl) (by kernel_rfl) (by kernel_rfl) rfl (by first | exact fun _ _ _ h => h | exact fun _ _ _ h => hQ2 _ _ _ _ _ h) ?_
    (try simp only [getElem_toArray, getElem_cons_zero, getElem_cons_succ, Act.put, setIfInBounds_toArray, set_cons_zero, set_cons_succ])
    refine wpAnyJ_skip 14 (by first | exact hF | exact wideFn) (hs1) rfl (by kernel_rfl) (by kernel_rfl) (by kernel_rfl) (by kernel_rfl) rfl (by first | exact fun _ _ _ h => h | exact fun _ _ _ h => hQ2 _ _ _ _ _ h) ?_
    (try simp only [getElem_toArray, getElem_cons_zero, getElem_cons_succ, Act.put, setIfInBounds_toArray, set_cons_zero, set_cons_succ])
    refine wpAnyJ_skip 15 (by first | exact hF | exact wideFn) (hs1) rfl (by kernel_rfl) (by kernel_rfl) (by kernel_rfl) (by kernel_rfl) rfl (by first | exact fun _ _ _ h => h | exact fun _ _ _ h => hQ2 _ _ _ _ _ h) ?_
    (try simp only [getElem_toArray, getElem_cons_zero, getElem_cons_succ, Act.put, setIfInBounds_toArray, set_cons_zero, set_cons_succ])
    refine wpAnyJ_skip 16 (by first | exact hF | exact wideFn) (hs1) rfl (by kernel_rfl) (by kernel_rfl) (by kernel_rfl) (by kernel_rfl) rfl (by first | exact fun _ _ _ h => h | exact fun _ _ _ h => hQ2 _ _ _ _ _ h) ?_
    (try simp only [getElem_toArray, getElem_cons_zero, getElem_cons_succ, Act.put, setIfInBounds_toArray, set_cons_zero, set_cons_succ])
    refine wpAnyJ_skip 17 (by first | exact hF | exact wideFn) (hs1) rfl (by kernel_rfl) (by kernel_rfl) (by kernel_rfl) (by kernel_rfl) rfl (by first | exact fun _ _ _ h => h | exact fun _ _ _ h => hQ2 _ _ _ _ _ h) ?_
    (try simp only [getElem_toArray, getElem_cons_zero, getElem_cons_succ, Act.put, setIfInBounds_toArray, set_cons_zero, set_cons_succ])
    refine wpAnyJ_skip 18 (by first | exact hF | exact wideFn) (hs1) rfl (by kernel_rfl) (by kernel_rfl) (by kernel_rfl) (by kernel_rfl) rfl (by first | exact fun _ _ _ h => h | exact fun _ _ _ h => hQ2 _ _ _ _ _ h) ?_
    (try simp only [getElem_toArray, getElem_cons_zero, getElem_cons_succ, Act.put, setIfInBounds_toArray, set_cons_zero, set_cons_succ])
    refine wpAnyJ_skip 19 (by first | exact hF | exact wideFn) (hs1) rfl (by kernel_rfl) (by kernel_rfl) (by kernel_rfl) (by kernel_rfl) rfl (by first | exact fun _ _ _ h => h | exact fun _ _ _ h => hQ2 _ _ _ _ _ h) ?_
    (try simp only [getElem_toArray, getElem_cons_zero, getElem_cons_succ, Act.put, setIfInBounds_toArray, set_cons_zero, set_cons_succ])
    refine wpAnyJ_skip 20 (by first | exact hF | exact wideFn) (hs1) rfl (by kernel_rfl) (by kernel_rfl) (by kernel_rfl) (by kernel_rfl) rfl (by first | exact fun _ _ _ h => h | exact fun _ _ _ h => hQ2 _ _ _ _ _ h) ?_
    (try simp only [getElem_toArray, getElem_cons_zero, getElem_cons_succ, Act.put, setIfInBounds_toArray, set_cons_zero, set_cons_succ])
    refine wpAnyJ_skip 21 (by first | exact hF | exact wideFn) (hs1) rfl (by kernel_rfl) (by kernel_rfl) (by kernel_rfl) (by kernel_rfl) rfl (by first | exact fun _ _ _ h => h | exact fun _ _ _ h => hQ2 _ _ _ _ _ h) ?_
    (try simp only [getElem_toArray, getElem_cons_zero, getElem_cons_succ, Act.put, setIfInBounds_toArray, set_cons_zero, set_cons_succ])
    refine wpAnyJ_take 22 (v := ?_) (by first | exact hF | exact wideFn) (hs1) rfl (by kernel_rfl) (by kernel_rfl) (by kernel_rfl) (by kernel_rfl) rfl ?_ (by first | exact fun _ _ _ h => h | exact fun _ _ _ h => hQ2 _ _ _ _ _ h) ?_
    rotate_left
    · intro W hSW
      simp only [getElem_toArray, getElem_cons_zero, getElem_cons_succ]
      (try dsimp only at hSW)
      go_simp
      with_reducible rfl
    (try simp only [getElem_toArray, getElem_cons_zero, getElem_cons_succ, Act.put, setIfInBounds_toArray, set_cons_zero, set_cons_succ])
    refine wpAnyJ_done (by kernel_rfl) ?_
    go_wp2_with fail
    go_ret
    exact ⟨rfl, HB0.out.trans (HBD.out.mono (by have := HB0.out.size; rw [hg] at this; exact this))⟩
  · have h2 : (t : Int) = n := by omega
    have h3 : ¬ ki = 3 := by omega
    have h2' : ((t : Int) == (n : Int)) = true := by rw [h2]; exact beq_self_eq_true _
    have h4 : t = n := by omega
    have h2'' : (t == n) = true := by rw [h4]; exact beq_self_eq_true _
    clear hc h4 h2
    go_enter Tryd.func56, Tryd.ntmps56
    go_upto_region 1 with fail
    have HBD := hide ((Below.refl w1.heap.size w1).drew)
    refine wp_region_J (fun W : World => W.cell? ⟨X, 0, none⟩ = some (.slice A n c) ∧ W.cell? ⟨g, 0, none⟩ = some (.int .i64 ki) ∧ W.cell? ⟨g, 1, none⟩ = some (.int .i64 (t : Nat)) ∧ W.cell? ⟨g, 2, none⟩ = some (.string old) ∧ W.cell? ⟨g, 3, none⟩ = some (.string new)) (by kernel_rfl) ?_
    generalize w1.drew = wd at HBD ⊢
    have hs1 := HS1.out _ HBD.out
    refine wpAnyJ_take 0 (v := ?_) (by first | exact hF | exact wideFn) (hs1) rfl (by kernel_rfl) (by kernel_rfl) (by kernel_rfl) (by kernel_rfl) rfl ?_ (by first | exact fun _ _ _ h => h | exact fun _ _ _ h => hQ2 _ _ _ _ _ h) ?_
    rotate_left
    · intro W hSW
      simp only [getElem_toArray, getElem_cons_zero, getElem_cons_succ]
      (try dsimp only at hSW)
      go_simp
      with_reducible rfl
    (try simp only [getElem_toArray, getElem_cons_zero, getElem_cons_succ, Act.put, setIfInBounds_toArray, set_cons_zero, set_cons_succ])
    refine wpAnyJ_take 1 (v := ?_) (by first | exact hF | exact wideFn) (hs1) rfl (by kernel_rfl) (by kernel_rfl) (by kernel_rfl) (by kernel_rfl) rfl ?_ (by first | exact fun _ _ _ h => h | exact fun _ _ _ h => hQ2 _ _ _ _ _ h) ?_
    rotate_left
    · intro W hSW
      simp only [getElem_toArray, getElem_cons_zero, getElem_cons_succ]
      (try dsimp only at hSW)
      go_simp
      with_reducible rfl
    (try simp only [getElem_toArray, getElem_cons_zero, getElem_cons_succ, Act.put, setIfInBounds_toArray, set_cons_zero, set_cons_succ])
    refine wpAnyJ_take 2 (v := ?_) (by first | exact hF | exact wideFn) (hs1) rfl (by kernel_rfl) (by kernel_rfl) (by kernel_rfl) (by kernel_rfl) rfl ?_ (by first | exact fun _ _ _ h => h | exact fun _ _ _ h => hQ2 _ _ _ _ _ h) ?_
    rotate_left
    · intro W hSW
      simp only [getElem_toArray, getElem_cons_zero, getElem_cons_succ]
      (try dsimp only at hSW)
      go_simp
      with_reducible rfl
    (try simp only [getElem_toArray, getElem_cons_zero, getElem_cons_succ, Act.put, setIfInBounds_toArray, set_cons_zero, set_cons_succ])
    refine wpAnyJ_take 3 (v := ?_) (by first | exact hF | exact wideFn) (hs1) rfl (by kernel_rfl) (by kernel_rfl) (by kernel_rfl) (by kernel_rfl) rfl ?_ (by first | exact fun _ _ _ h => h | exact fun _ _ _ h => hQ2 _ _ _ _ _ h) ?_
    rotate_left
    · intro W hSW
      simp only [getElem_toArray, getElem_cons_zero, getElem_cons_succ]
      (try dsimp only at hSW)
      go_simp
      with_reducible rfl
    (try simp only [getElem_toArray, getElem_cons_zero, getElem_cons_succ, Act.put, setIfInBounds_toArray, set_cons_zero, set_cons_succ])
    refine wpAnyJ_take 4 (v := ?_) (by first | exact hF | exact wideFn) (hs1) rfl (by kernel_rfl) (by kernel_rfl) (by kernel_rfl) (by kernel_rfl) rfl ?_ (by first | exact fun _ _ _ h => h | exact fun _ _ _ h => hQ2 _ _ _ _ _ h) ?_
    rotate_left
    · intro W hSW
      simp only [getElem_toArray, getElem_cons_zero, getElem_cons_succ]
      (try dsimp only at hSW)
      go_simp
      with_reducible rfl
    (try simp only [getElem_toArray, getElem_cons_zero, getElem_cons_succ, Act.put, setIfInBounds_toArray, set_cons_zero, set_cons_succ])
    refine wpAnyJ_take 5 (v := ?_) (by first | exact hF | exact wideFn) (hs1) rfl (by kernel_rfl) (by kernel_rfl) (by kernel_rfl) (by kernel_rfl) rfl ?_ (by first | exact fun _ _ _ h => h | exact fun _ _ _ h => hQ2 _ _ _ _ _ h) ?_
    rotate_left
    · intro W hSW
      simp only [getElem_toArray, getElem_cons_zero, getElem_cons_succ]
      (try dsimp only at hSW)
      go_simp
      with_reducible rfl
    (try simp only [getElem_toArray, getElem_cons_zero, getElem_cons_succ, Act.put, setIfInBounds_toArray, set_cons_zero, set_cons_succ])
    refine wpAnyJ_take 6 (v := ?_) (by first | exact hF | exact wideFn) (hs1) rfl (by kernel_rfl) (by kernel_rfl) (by kernel_rfl) (by kernel_rfl) rfl ?_ (by first | exact fun _ _ _ h => h | exact fun _ _ _ h => hQ2 _ _ _ _ _ h) ?_
    rotate_left
    · intro W hSW
      simp only [getElem_toArray, getElem_cons_zero, getElem_cons_succ]
      (try dsimp only at hSW)
      go_simp
      with_reducible rfl
    (try simp only [getElem_toArray, getElem_cons_zero, getElem_cons_succ, Act.put, setIfInBounds_toArray, set_cons_zero, set_cons_succ])
    refine wpAnyJ_take 7 (v := ?_) (by first | exact hF | exact wideFn) (hs1) rfl (by kernel_rfl) (by kernel_rfl) (by kernel_rfl) (by kernel_rfl) rfl ?_ (by first | exact fun _ _ _ h => h | exact fun _ _ _ h => hQ2 _ _ _ _ _ h) ?_
    rotate_left
    · intro W hSW
      simp only [getElem_toArray, getElem_cons_zero, getElem_cons_succ]
      (try dsimp only at hSW)
      go_simp
      with_reducible rfl
    (try simp only [getElem_toArray, getElem_cons_zero, getElem_cons_succ, Act.put, setIfInBounds_toArray, set_cons_zero, set_cons_succ])
    refine wpAnyJ_take 8 (v := ?_) (by first | exact hF | exact wideFn) (hs1) rfl (by kernel_rfl) (by kernel_rfl) (by kernel_rfl) (by kernel_rfl) rfl ?_ (by first | exact fun _ _ _ h => h | exact fun _ _ _ h => hQ2 _ _ _ _ _ h) ?_
    rotate_left
    · intro W hSW
      simp only [getElem_toArray, getElem_cons_zero, getElem_cons_succ]
      (try dsimp only at hSW)
      go_simp
      with_reducible rfl
    (try simp only [getElem_toArray, getElem_cons_zero, getElem_cons_succ, Act.put, setIfInBounds_toArray, set_cons_zero, set_cons_succ])
    refine wpAnyJ_take 9 (v := ?_) (by first | exact hF | exact wideFn) (hs1) rfl (by kernel_rfl) (by kernel_rfl) (by kernel_rfl) (by kernel_rfl) rfl ?_ (by first | exact fun _ _ _ h => h | exact fun _ _ _ h => hQ2 _ _ _ _ _ h) ?_
    rotate_left
    · intro W hSW
      simp only [getElem_toArray, getElem_cons_zero, getElem_cons_succ]
      (try dsimp only at hSW)
      go_simp
      with_reducible rfl
    (try simp only [getElem_toArray, getElem_cons_zero, getElem_cons_succ, Act.put, setIfInBounds_toArray, set_cons_zero, set_cons_succ])
    refine wpAnyJ_take 10 (v := ?_) (by first | exact hF | exact wideFn) (hs1) rfl (by kernel_rfl) (by kernel_rfl) (by kernel_rfl) (by kernel_rfl) rfl ?_ (by first | exact fun _ _ _ h => h | exact fun _ _ _ h => hQ2 _ _ _ _ _ h) ?_
    rotate_left
    · intro W hSW
      simp only [getElem_toArray, getElem_cons_zero, getElem_cons_succ]
      (try dsimp only at hSW)
      go_simp
      with_reducible rfl
    (try simp only [getElem_toArray, getElem_cons_zero, getElem_cons_succ, Act.put, setIfInBounds_toArray, set_cons_zero, set_cons_succ])
    refine wpAnyJ_take 11 (v := ?_) (by first | exact hF | exact wideFn) (hs1) rfl (by kernel_rfl) (by kernel_rfl) (by kernel_rfl) (by kernel_rfl) rfl ?_ (by first | exact fun _ _ _ h => h | exact fun _ _ _ h => hQ2 _ _ _ _ _ h) ?_
    rotate_left
    · intro W hSW
      simp only [getElem_toArray, getElem_cons_zero, getElem_cons_succ]
      (try dsimp only at hSW)
      go_simp
      with_reducible rfl
    (try simp only [getElem_toArray, getElem_cons_zero, getElem_cons_succ, Act.put, setIfInBounds_toArray, set_cons_zero, set_cons_succ])
    refine wpAnyJ_take 12 (v := ?_) (by first | exact hF | exact wideFn) (hs1) rfl (by kernel_rfl) (by kernel_rfl) (by kernel_rfl) (by kernel_rfl) rfl ?_ (by first | exact fun _ _ _ h => h | exact fun _ _ _ h => hQ2 _ _ _ _ _ h) ?_
    rotate_left
    · intro W hSW
      simp only [getElem_toArray, getElem_cons_zero, getElem_cons_succ]
      (try dsimp only at hSW)
      go_simp
      with_reducible rfl
    (try simp only [getElem_toArray, getElem_cons_zero, getElem_cons_succ, Act.put, setIfInBounds_toArray, set_cons_zero, set_cons_succ])
    refine wpAnyJ_take 13 (v := ?_) (by first | exact hF | exact wideFn) (hs1) rfl (by kernel_rfl) (by kernel_rfl) (by kernel_rfl) (by kernel_rfl) rfl ?_ (by first | exact fun _ _ _ h => h | exact fun _ _ _ h => hQ2 _ _ _ _ _ h) ?_
    rotate_left
    · intro W hSW
      simp only [getElem_toArray, getElem_cons_zero, getElem_cons_succ]
      (try dsimp only at hSW)
      go_simp
      with_reducible rfl
    (try simp only [getElem_toArray, getElem_cons_zero, getElem_cons_succ, Act.put, setIfInBounds_toArray, set_cons_zero, set_cons_succ])
    refine wpAnyJ_take 14 (v := ?_) (by first | exact hF | exact wideFn) (hs1) rfl (by kernel_rfl) (by kernel_rfl) (by kernel_rfl) (by kernel_rfl) rfl ?_ (by first | exact fun _ _ _ h => h | exact fun _ _ _ h => hQ2 _ _ _ _ _ h) ?_
    rotate_left
    · intro W hSW
      simp only [getElem_toArray, getElem_cons_zero, getElem_cons_succ]
      (try dsimp only at hSW)
      go_simp
      with_reducible rfl
    (try simp only [getElem_toArray, getElem_cons_zero, getElem_cons_succ, Act.put, setIfInBounds_toArray, set_cons_zero, set_cons_succ])
    refine wpAnyJ_take 15 (v := ?_) (by first | exact hF | exact wideFn) (hs1) rfl (by kernel_rfl) (by kernel_rfl) (by kernel_rfl) (by kernel_rfl) rfl ?_ (by first | exact fun _ _ _ h => h | exact fun _ _ _ h => hQ2 _ _ _ _ _ h) ?_
    rotate_left
    · intro W hSW
      simp only [getElem_toArray, getElem_cons_zero, getElem_cons_succ]
      (try dsimp only at hSW)
      go_simp
      with_reducible rfl
    (try simp only [getElem_toArray, getElem_cons_zero, getElem_cons_succ, Act.put, setIfInBounds_toArray, set_cons_zero, set_cons_succ])
    refine wpAnyJ_take 16 (v := ?_) (by first | exact hF | exact wideFn) (hs1) rfl (by kernel_rfl) (by kernel_rfl) (by kernel_rfl) (by kernel_rfl) rfl ?_ (by first | exact fun _ _ _ h => h | exact fun _ _ _ h => hQ2 _ _ _ _ _ h) ?_
    rotate_left
    · intro W hSW
      simp only [getElem_toArray, getElem_cons_zero, getElem_cons_succ]
      (try dsimp only at hSW)
      go_simp
      with_reducible rfl
    (try simp only [getElem_toArray, getElem_cons_zero, getElem_cons_succ, Act.put, setIfInBounds_toArray, set_cons_zero, set_cons_succ])
    refine wpAnyJ_take 17 (v := ?_) (by first | exact hF | exact wideFn) (hs1) rfl (by kernel_rfl) (by kernel_rfl) (by kernel_rfl) (by kernel_rfl) rfl ?_ (by first | exact fun _ _ _ h => h | exact fun _ _ _ h => hQ2 _ _ _ _ _ h) ?_
    rotate_left
    · intro W hSW
      simp only [getElem_toArray, getElem_cons_zero, getElem_cons_succ]
      (try dsimp only at hSW)
      go_simp
      with_reducible rfl
    (try simp only [getElem_toArray, getElem_cons_zero, getElem_cons_succ, Act.put, setIfInBounds_toArray, set_cons_zero, set_cons_succ])
    refine wpAnyJ_take 18 (v := ?_) (by first | exact hF | exact wideFn) (hs1) rfl (by kernel_rfl) (by kernel_rfl) (by kernel_rfl) (by kernel_rfl) rfl ?_ (by first | exact fun _ _ _ h => h | exact fun _ _ _ h => hQ2 _ _ _ _ _ h) ?_
    rotate_left
    · intro W hSW
      simp only [getElem_toArray, getElem_cons_zero, getElem_cons_succ]
      (try dsimp only at hSW)
      go_simp
      with_reducible rfl
    (try simp only [getElem_toArray, getElem_cons_zero, getElem_cons_succ, Act.put, setIfInBounds_toArray, set_cons_zero, set_cons_succ])
    refine wpAnyJ_take 19 (v := ?_) (by first | exact hF | exact wideFn) (hs1) rfl (by kernel_rfl) (by kernel_rfl) (by kernel_rfl) (by kernel_rfl) rfl ?_ (by first | exact fun _ _ _ h => h | exact fun _ _ _ h => hQ2 _ _ _ _ _ h) ?_
    rotate_left
    · intro W hSW
      simp only [getElem_toArray, getElem_cons_zero, getElem_cons_succ]
      (try dsimp only at hSW)
      go_simp
      with_reducible rfl
    (try simp only [getElem_toArray, getElem_cons_zero, getElem_cons_succ, Act.put, setIfInBounds_toArray, set_cons_zero, set_cons_succ])
    refine wpAnyJ_take 20 (v := ?_) (by first | exact hF | exact wideFn) (hs1) rfl (by kernel_rfl) (by kernel_rfl) (by kernel_rfl) (by kernel_rfl) rfl ?_ (by first | exact fun _ _ _ h => h | exact fun _ _ _ h => hQ2 _ _ _ _ _ h) ?_
    rotate_left
    · intro W hSW
      simp only [getElem_toArray, getElem_cons_zero, getElem_cons_succ]
      (try dsimp only at hSW)
      go_simp
      with_reducible rfl
    (try simp only [getElem_toArray, getElem_cons_zero, getElem_cons_succ, Act.put, setIfInBounds_toArray, set_cons_zero, set_cons_succ])
    refine wpAnyJ_take 21 (v := ?_) (by first | exact hF | exact wideFn) (hs1) rfl (by kernel_rfl) (by kernel_rfl) (by kernel_rfl) (by kernel_rfl) rfl ?_ (by first | exact fun _ _ _ h => h | exact fun _ _ _ h => hQ2 _ _ _ _ _ h) ?_
    rotate_left
    · intro W hSW
      simp only [getElem_toArray, getElem_cons_zero, getElem_cons_succ]
      (try dsimp only at hSW)
      go_simp
      with_reducible rfl
    (try simp only [getElem_toArray, getElem_cons_zero, getElem_cons_succ, Act.put, setIfInBounds_toArray, set_cons_zero, set_cons_succ])
    refine wpAnyJ_take 22 (v := ?_) (by first | exact hF | exact wideFn) (hs1) rfl (by kernel_rfl) (by kernel_rfl) (by kernel_rfl) (by kernel_rfl) rfl ?_ (by first | exact fun _ _ _ h => h | exact fun _ _ _ h => hQ2 _ _ _ _ _ h) ?_
    rotate_left
    · intro W hSW
      simp only [getElem_toArray, getElem_cons_zero, getElem_cons_succ]
      (try dsimp only at hSW)
      go_simp
      with_reducible rfl
    (try simp only [getElem_toArray, getElem_cons_zero, getElem_cons_succ, Act.put, setIfInBounds_toArray, set_cons_zero, set_cons_succ])
    refine wpAnyJ_done (by kernel_rfl) ?_
    go_wp2_with fail
    go_ret
    exact ⟨rfl, HB0.out.trans (HBD.out.mono (by have := HB0.out.size; rw [hg] at this; exact this))⟩
theorem edit_old (w W : World) (X : Nat) (A : Option Addr) (c : Nat) (a : List Wd) (u v : Value) (ki : Int) (t : Nat) (old new : Wd) (hX : Blk W X 92 #[.slice A a.length c, u, v]) (hB : Below w.heap.size w W) (hA : SR w w.heap.size A a) (hc : a.length ≤ maxLen) (ht : t < a.length) (h3 : ki ≠ 3) (ho : a.getD t noW ≠ old) :
    Calls Tryd.prog 56 #[.pointer (some ⟨X, 0, none⟩), .agg #[.int .i64 ki, .int .i64 (t : Nat), .string old, .string new]] W fun e w' => e = .returned (.int .i64 111) ∧ Below W.heap.size W w' := by
  have HB0 := hide ((Below.refl W.heap.size W).alloc (Nat.le_refl _) (.cells #[.int .i64 ki, .int .i64 (t : Nat), .string old, .string new] 86))
  have E1 := Blk.new W 86 #[.int .i64 ki, .int .i64 (t : Nat), .string old, .string new]
  have X1 := hX.alloc (.cells #[.int .i64 ki, .int .i64 (t : Nat), .string old, .string new] 86)
  obtain ⟨n, hn⟩ : ∃ n, a.length = n := ⟨_, rfl⟩
  obtain ⟨b, off, rfl, hb, hx⟩ := VR1.at_ hA ht
  obtain ⟨x, hxx⟩ : ∃ x, a.getD t noW = x := ⟨_, rfl⟩
  rw [hxx] at hx ho
  rw [hn] at ht X1 hc
  unfold maxLen at hc
  obtain ⟨g, hg⟩ : ∃ g, W.heap.size = g := ⟨_, rfl⟩
  have hx1 := (hB.cell (p := ⟨b, off + t, none⟩) hb).trans hx
  have hb1 : b < W.heap.size := by have := hB.size; omega
  have hx2 := (HB0.out.cell (p := ⟨b, off + t, none⟩) hb1).trans hx1
  have hb2 : b < (W.alloc (.cells #[.int .i64 ki, .int .i64 (t : Nat), .string old, .string new] 86)).heap.size := by have := HB0.out.size; omega
  rw [hg] at E1 HB0 ⊢
  obtain ⟨w1, hw1⟩ : ∃ w1, W.alloc (.cells #[.int .i64 ki, .int .i64 (t : Nat), .string old, .string new] 86) = w1 := ⟨_, rfl⟩
  rw [hw1] at E1 X1 HB0 hx2 hb2
  have HS1 : Hid (∀ V, Below w1.heap.size w1 V → V.cell? ⟨X, 0, none⟩ = some (.slice (some ⟨b, off, none⟩) n c) ∧ V.cell? ⟨g, 0, none⟩ = some (.int .i64 ki) ∧ V.cell? ⟨g, 1, none⟩ = some (.int .i64 (t : Nat)) ∧ V.cell? ⟨g, 2, none⟩ = some (.string old) ∧ V.cell? ⟨g, 3, none⟩ = some (.string new) ∧ V.cell? ⟨b, off + t, none⟩ = some (.string x)) := hide (fun V h => by
    obtain ⟨e1, e2, e3, e4⟩ := (blk4 (E1.ext h)).2
    exact ⟨(blk3 (X1.ext h)).2.1, e1, e2, e3, e4, (h.cell (p := ⟨b, off + t, none⟩) hb2).trans hx2⟩)
  clear E1 X1 hX hx hx1 hx2 hA hB hb hb1 hb2
  have k1 : ¬ (n : Int) < (t : Int) := by omega
  have k2 : ((t : Int) == (n : Int)) = false := by rw [beq_eq_false_iff_ne]; omega
  have k3 : (t == n) = false := by rw [beq_eq_false_iff_ne]; omega
  have k4 : (0 : Int) ≤ (t : Int) := by omega
  have k5 : (t : Int) < (n : Int) := by omega
  have k6 : ¬ t = n := by omega
  have q := str_ne ho
  have h3' : (ki == 3) = false := by rw [beq_eq_false_iff_ne]; exact h3
  have h3'' : (ki != 3) = true := by simp [h3]
  go_enter Tryd.func56, Tryd.ntmps56
  go_upto_region 1 with fail
  have HBD := hide ((Below.refl w1.heap.size w1).drew)
  refine wp_region_J (fun W : World => W.cell? ⟨X, 0, none⟩ = some (.slice (some ⟨b, off, none⟩) n c) ∧ W.cell? ⟨g, 0, none⟩ = some (.int .i64 ki) ∧ W.cell? ⟨g, 1, none⟩ = some (.int .i64 (t : Nat)) ∧ W.cell? ⟨g, 2, none⟩ = some (.string old) ∧ W.cell? ⟨g, 3, none⟩ = some (.string new) ∧ W.cell? ⟨b, off + t, none⟩ = some (.string x)) (by kernel_rfl) ?_
  generalize w1.drew = wd at HBD ⊢
  have hs1 := HS1.out _ HBD.out
  refine wpAnyJ_take 0 (v := ?_) (by first | exact hF | exact wideFn) (hs1) rfl (by kernel_rfl) (by kernel_rfl) (by kernel_rfl) (by kernel_rfl) rfl ?_ (by first | exact fun _ _ _ h => h | exact fun _ _ _ h => hQ2 _ _ _ _ _ h) ?_
  rotate_left
  · intro W hSW
    simp only [getElem_toArray, getElem_cons_zero, getElem_cons_succ]
    (try dsimp only at hSW)
    go_simp
    with_reducible rfl
  (try simp only [getElem_toArray, getElem_cons_zero, getElem_cons_succ, Act.put, setIfInBounds_toArray, set_cons_zero, set_cons_succ])
  refine wpAnyJ_take 1 (v := ?_) (by first | exact hF | exact wideFn) (hs1) rfl (by kernel_rfl) (by kernel_rfl) (by kernel_rfl) (by kernel_rfl) rfl ?_ (by first | exact fun _ _ _ h => h | exact fun _ _ _ h => hQ2 _ _ _ _ _ h) ?_
  rotate_left
  · intro W hSW
    simp only [getElem_toArray, getElem_cons_zero, getElem_cons_succ]
    (try dsimp only at hSW)
    go_simp
    with_reducible rfl
  (try simp only [getElem_toArray, getElem_cons_zero, getElem_cons_succ, Act.put, setIfInBounds_toArray, set_cons_zero, set_cons_succ])
  refine wpAnyJ_take 2 (v := ?_) (by first | exact hF | exact wideFn) (hs1) rfl (by kernel_rfl) (by kernel_rfl) (by kernel_rfl) (by kernel_rfl) rfl ?_ (by first | exact fun _ _ _ h => h | exact fun _ _ _ h => hQ2 _ _ _ _ _ h) ?_
  rotate_left
  · intro W hSW
    simp only [getElem_toArray, getElem_cons_zero, getElem_cons_succ]
    (try dsimp only at hSW)
    go_simp
    with_reducible rfl
  (try simp only [getElem_toArray, getElem_cons_zero, getElem_cons_succ, Act.put, setIfInBounds_toArray, set_cons_zero, set_cons_succ])
  refine wpAnyJ_take 3 (v := ?_) (by first | exact hF | exact wideFn) (hs1) rfl (by kernel_rfl) (by kernel_rfl) (by kernel_rfl) (by kernel_rfl) rfl ?_ (by first | exact fun _ _ _ h => h | exact fun _ _ _ h => hQ2 _ _ _ _ _ h) ?_
  rotate_left
  · intro W hSW
    simp only [getElem_toArray, getElem_cons_zero, getElem_cons_succ]
    (try dsimp only at hSW)
    go_simp
    with_reducible rfl
  (try simp only [getElem_toArray, getElem_cons_zero, getElem_cons_succ, Act.put, setIfInBounds_toArray, set_cons_zero, set_cons_succ])
  refine wpAnyJ_take 4 (v := ?_) (by first | exact hF | exact wideFn) (hs1) rfl (by kernel_rfl) (by kernel_rfl) (by kernel_rfl) (by kernel_rfl) rfl ?_ (by first | exact fun _ _ _ h => h | exact fun _ _ _ h => hQ2 _ _ _ _ _ h) ?_
  rotate_left
  · intro W hSW
    simp only [getElem_toArray, getElem_cons_zero, getElem_cons_succ]
    (try dsimp only at hSW)
    go_simp
    with_reducible rfl
  (try simp only [getElem_toArray, getElem_cons_zero, getElem_cons_succ, Act.put, setIfInBounds_toArray, set_cons_zero, set_cons_succ])
  refine wpAnyJ_take 5 (v := ?_) (by first | exact hF | exact wideFn) (hs1) rfl (by kernel_rfl) (by kernel_rfl) (by kernel_rfl) (by kernel_rfl) rfl ?_ (by first | exact fun _ _ _ h => h | exact fun _ _ _ h => hQ2 _ _ _ _ _ h) ?_
  rotate_left
  · intro W hSW
    simp only [getElem_toArray, getElem_cons_zero, getElem_cons_succ]
    (try dsimp only at hSW)
    go_simp
    with_reducible rfl
  (try simp only [getElem_toArray, getElem_cons_zero, getElem_cons_succ, Act.put, setIfInBounds_toArray, set_cons_zero, set_cons_succ])
  refine wpAnyJ_take 6 (v := ?_) (by first | exact hF | exact wideFn) (hs1) rfl (by kernel_rfl) (by kernel_rfl) (by kernel_rfl) (by kernel_rfl) rfl ?_ (by first | exact fun _ _ _ h => h | exact fun _ _ _ h => hQ2 _ _ _ _ _ h) ?_
  rotate_left
  · intro W hSW
    simp only [getElem_toArray, getElem_cons_zero, getElem_cons_succ]
    (try dsimp only at hSW)
    go_simp
    with_reducible rfl
  (try simp only [getElem_toArray, getElem_cons_zero, getElem_cons_succ, Act.put, setIfInBounds_toArray, set_cons_zero, set_cons_succ])
  refine wpAnyJ_take 7 (v := ?_) (by first | exact hF | exact wideFn) (hs1) rfl (by kernel_rfl) (by kernel_rfl) (by kernel_rfl) (by kernel_rfl) rfl ?_ (by first | exact fun _ _ _ h => h | exact fun _ _ _ h => hQ2 _ _ _ _ _ h) ?_
  rotate_left
  · intro W hSW
    simp only [getElem_toArray, getElem_cons_zero, getElem_cons_succ]
    (try dsimp only at hSW)
    go_simp
    with_reducible rfl
  (try simp only [getElem_toArray, getElem_cons_zero, getElem_cons_succ, Act.put, setIfInBounds_toArray, set_cons_zero, set_cons_succ])
  refine wpAnyJ_take 8 (v := ?_) (by first | exact hF | exact wideFn) (hs1) rfl (by kernel_rfl) (by kernel_rfl) (by kernel_rfl) (by kernel_rfl) rfl ?_ (by first | exact fun _ _ _ h => h | exact fun _ _ _ h => hQ2 _ _ _ _ _ h) ?_
  rotate_left
  · intro W hSW
    simp only [getElem_toArray, getElem_cons_zero, getElem_cons_succ]
    (try dsimp only at hSW)
    go_simp
    with_reducible rfl
  (try simp only [getElem_toArray, getElem_cons_zero, getElem_cons_succ, Act.put, setIfInBounds_toArray, set_cons_zero, set_cons_succ])
  refine wpAnyJ_take 9 (v := ?_) (by first | exact hF | exact wideFn) (hs1) rfl (by kernel_rfl) (by kernel_rfl) (by kernel_rfl) (by kernel_rfl) rfl ?_ (by first | exact fun _ _ _ h => h | exact fun _ _ _ h => hQ2 _ _ _ _ _ h) ?_
  rotate_left
  · intro W hSW
    simp only [getElem_toArray, getElem_cons_zero, getElem_cons_succ]
    (try dsimp only at hSW)
    go_simp
    with_reducible rfl
  (try simp only [getElem_toArray, getElem_cons_zero, getElem_cons_succ, Act.put, setIfInBounds_toArray, set_cons_zero, set_cons_succ])
  refine wpAnyJ_take 10 (v := ?_) (by first | exact hF | exact wideFn) (hs1) rfl (by kernel_rfl) (by kernel_rfl) (by kernel_rfl) (by kernel_rfl) rfl ?_ (by first | exact fun _ _ _ h => h | exact fun _ _ _ h => hQ2 _ _ _ _ _ h) ?_
  rotate_left
  · intro W hSW
    simp only [getElem_toArray, getElem_cons_zero, getElem_cons_succ]
    (try dsimp only at hSW)
    go_simp
    with_reducible rfl
  (try simp only [getElem_toArray, getElem_cons_zero, getElem_cons_succ, Act.put, setIfInBounds_toArray, set_cons_zero, set_cons_succ])
  refine wpAnyJ_take 11 (v := ?_) (by first | exact hF | exact wideFn) (hs1) rfl (by kernel_rfl) (by kernel_rfl) (by kernel_rfl) (by kernel_rfl) rfl ?_ (by first | exact fun _ _ _ h => h | exact fun _ _ _ h => hQ2 _ _ _ _ _ h) ?_
  rotate_left
  · intro W hSW
    simp only [getElem_toArray, getElem_cons_zero, getElem_cons_succ]
    (try dsimp only at hSW)
    go_simp
    with_reducible rfl
  (try simp only [getElem_toArray, getElem_cons_zero, getElem_cons_succ, Act.put, setIfInBounds_toArray, set_cons_zero, set_cons_succ])
  refine wpAnyJ_take 12 (v := ?_) (by first | exact hF | exact wideFn) (hs1) rfl (by kernel_rfl) (by kernel_rfl) (by kernel_rfl) (by kernel_rfl) rfl ?_ (by first | exact fun _ _ _ h => h | exact fun _ _ _ h => hQ2 _ _ _ _ _ h) ?_
  rotate_left
  · intro W hSW
    simp only [getElem_toArray, getElem_cons_zero, getElem_cons_succ]
    (try dsimp only at hSW)
    go_simp
    with_reducible rfl
  (try simp only [getElem_toArray, getElem_cons_zero, getElem_cons_succ, Act.put, setIfInBounds_toArray, set_cons_zero, set_cons_succ])
  refine wpAnyJ_take 13 (v := ?_) (by first | exact hF | exact wideFn) (hs1) rfl (by kernel_rfl) (by kernel_rfl) (by kernel_rfl) (by kernel_rfl) rfl ?_ (by first | exact fun _ _ _ h => h | exact fun _ _ _ h => hQ2 _ _ _ _ _ h) ?_
  rotate_left
  · intro W hSW
    simp only [getElem_toArray, getElem_cons_zero, getElem_cons_succ]
    (try dsimp only at hSW)
    go_simp
    with_reducible rfl
  (try simp only [getElem_toArray, getElem_cons_zero, getElem_cons_succ, Act.put, setIfInBounds_toArray, set_cons_zero, set_cons_succ])
  refine wpAnyJ_take 14 (v := ?_) (by first | exact hF | exact wideFn) (hs1) rfl (by kernel_rfl) (by kernel_rfl) (by kernel_rfl) (by kernel_rfl) rfl ?_ (by first | exact fun _ _ _ h => h | exact fun _ _ _ h => hQ2 _ _ _ _ _ h) ?_
  rotate_left
  · intro W hSW
    simp only [getElem_toArray, getElem_cons_zero, getElem_cons_succ]
    (try dsimp only at hSW)
    go_simp
    with_reducible rfl
  (try simp only [getElem_toArray, getElem_cons_zero, getElem_cons_succ, Act.put, setIfInBounds_toArray, set_cons_zero, set_cons_succ])
  refine wpAnyJ_take 15 (v := ?_) (by first | exact hF | exact wideFn) (hs1) rfl (by kernel_rfl) (by kernel_rfl) (by kernel_rfl) (by kernel_rfl) rfl ?_ (by first | exact fun _ _ _ h => h | exact fun _ _ _ h => hQ2 _ _ _ _ _ h) ?_
  rotate_left
  · intro W hSW
    simp only [getElem_toArray, getElem_cons_zero, getElem_cons_succ]
    (try dsimp only at hSW)
    go_simp
    with_reducible rfl
  (try simp only [getElem_toArray, getElem_cons_zero, getElem_cons_succ, Act.put, setIfInBounds_toArray, set_cons_zero, set_cons_succ])
  refine wpAnyJ_take 16 (v := ?_) (by first | exact hF | exact wideFn) (hs1) rfl (by kernel_rfl) (by kernel_rfl) (by kernel_rfl) (by kernel_rfl) rfl ?_ (by first | exact fun _ _ _ h => h | exact fun _ _ _ h => hQ2 _ _ _ _ _ h) ?_
  rotate_left
  · intro W hSW
    simp only [getElem_toArray, getElem_cons_zero, getElem_cons_succ]
    (try dsimp only at hSW)
    go_simp
    with_reducible rfl
  (try simp only [getElem_toArray, getElem_cons_zero, getElem_cons_succ, Act.put, setIfInBounds_toArray, set_cons_zero, set_cons_succ])
  refine wpAnyJ_take 17 (v := ?_) (by first | exact hF | exact wideFn) (hs1) rfl (by kernel_rfl) (by kernel_rfl) (by kernel_rfl) (by kernel_rfl) rfl ?_ (by first | exact fun _ _ _ h => h | exact fun _ _ _ h => hQ2 _ _ _ _ _ h) ?_
  rotate_left
  · intro W hSW
    simp only [getElem_toArray, getElem_cons_zero, getElem_cons_succ]
    (try dsimp only at hSW)
    go_simp
    with_reducible rfl
  (try simp only [getElem_toArray, getElem_cons_zero, getElem_cons_succ, Act.put, setIfInBounds_toArray, set_cons_zero, set_cons_succ])
  refine wpAnyJ_skip 18 (by first | exact hF | exact wideFn) (hs1) rfl (by kernel_rfl) (by kernel_rfl) (by kernel_rfl) (by kernel_rfl) rfl (by first | exact fun _ _ _ h => h | exact fun _ _ _ h => hQ2 _ _ _ _ _ h) ?_
  (try simp only [getElem_toArray, getElem_cons_zero, getElem_cons_succ, Act.put, setIfInBounds_toArray, set_cons_zero, set_cons_succ])
  refine wpAnyJ_skip 19 (by first | exact hF | exact wideFn) (hs1) rfl (by kernel_rfl) (by kernel_rfl) (by kernel_rfl) (by kernel_rfl) rfl (by first | exact fun _ _ _ h => h | exact fun _ _ _ h => hQ2 _ _ _ _ _ h) ?_
  (try simp only [getElem_toArray, getElem_cons_zero, getElem_cons_succ, Act.put, setIfInBounds_toArray, set_cons_zero, set_cons_succ])
  refine wpAnyJ_skip 20 (by first | exact hF | exact wideFn) (hs1) rfl (by kernel_rfl) (by kernel_rfl) (by kernel_rfl) (by kernel_rfl) rfl (by first | exact fun _ _ _ h => h | exact fun _ _ _ h => hQ2 _ _ _ _ _ h) ?_
  (try simp only [getElem_toArray, getElem_cons_zero, getElem_cons_succ, Act.put, setIfInBounds_toArray, set_cons_zero, set_cons_succ])
  refine wpAnyJ_take 21 (v := ?_) (by first | exact hF | exact wideFn) (hs1) rfl (by kernel_rfl) (by kernel_rfl) (by kernel_rfl) (by kernel_rfl) rfl ?_ (by first | exact fun _ _ _ h => h | exact fun _ _ _ h => hQ2 _ _ _ _ _ h) ?_
  rotate_left
  · intro W hSW
    simp only [getElem_toArray, getElem_cons_zero, getElem_cons_succ]
    (try dsimp only at hSW)
    go_simp
    with_reducible rfl
  (try simp only [getElem_toArray, getElem_cons_zero, getElem_cons_succ, Act.put, setIfInBounds_toArray, set_cons_zero, set_cons_succ])
  refine wpAnyJ_take 22 (v := ?_) (by first | exact hF | exact wideFn) (hs1) rfl (by kernel_rfl) (by kernel_rfl) (by kernel_rfl) (by kernel_rfl) rfl ?_ (by first | exact fun _ _ _ h => h | exact fun _ _ _ h => hQ2 _ _ _ _ _ h) ?_
  rotate_left
  · intro W hSW
    simp only [getElem_toArray, getElem_cons_zero, getElem_cons_succ]
    (try dsimp only at hSW)
    go_simp
    with_reducible rfl
  (try simp only [getElem_toArray, getElem_cons_zero, getElem_cons_succ, Act.put, setIfInBounds_toArray, set_cons_zero, set_cons_succ])
  refine wpAnyJ_done (by kernel_rfl) ?_
  go_upto_region 3 with fail
  have HBE := hide (HBD.out.trans ((Below.refl wd.heap.size wd).drew.mono HBD.out.size))
  refine wp_region_J (fun W : World => W.cell? ⟨X, 0, none⟩ = some (.slice (some ⟨b, off, none⟩) n c) ∧ W.cell? ⟨g, 0, none⟩ = some (.int .i64 ki) ∧ W.cell? ⟨g, 1, none⟩ = some (.int .i64 (t : Nat)) ∧ W.cell? ⟨g, 2, none⟩ = some (.string old) ∧ W.cell? ⟨g, 3, none⟩ = some (.string new) ∧ W.cell? ⟨b, off + t, none⟩ = some (.string x)) (by kernel_rfl) ?_
  generalize wd.drew = we at HBE ⊢
  have hs3 := HS1.out _ HBE.out
  refine wpAnyJ_take 0 (v := ?_) (by first | exact hF | exact wideFn) (hs3) rfl (by kernel_rfl) (by kernel_rfl) (by kernel_rfl) (by kernel_rfl) rfl ?_ (by first | exact fun _ _ _ h => h | exact fun _ _ _ h => hQ2 _ _ _ _ _ h) ?_
  rotate_left
  · intro W hSW
    simp only [getElem_toArray, getElem_cons_zero, getElem_cons_succ]
    (try dsimp only at hSW)
    go_simp
    with_reducible rfl
  (try simp only [getElem_toArray, getElem_cons_zero, getElem_cons_succ, Act.put, setIfInBounds_toArray, set_cons_zero, set_cons_succ])
  refine wpAnyJ_take 1 (v := ?_) (by first | exact hF | exact wideFn) (hs3) rfl (by kernel_rfl) (by kernel_rfl) (by kernel_rfl) (by kernel_rfl) rfl ?_ (by first | exact fun _ _ _ h => h | exact fun _ _ _ h => hQ2 _ _ _ _ _ h) ?_
  rotate_left
  · intro W hSW
    simp only [getElem_toArray, getElem_cons_zero, getElem_cons_succ]
    (try dsimp only at hSW)
    go_simp
    with_reducible rfl
  (try simp only [getElem_toArray, getElem_cons_zero, getElem_cons_succ, Act.put, setIfInBounds_toArray, set_cons_zero, set_cons_succ])
  refine wpAnyJ_take 2 (v := ?_) (by first | exact hF | exact wideFn) (hs3) rfl (by kernel_rfl) (by kernel_rfl) (by kernel_rfl) (by kernel_rfl) rfl ?_ (by first | exact fun _ _ _ h => h | exact fun _ _ _ h => hQ2 _ _ _ _ _ h) ?_
  rotate_left
  · intro W hSW
    simp only [getElem_toArray, getElem_cons_zero, getElem_cons_succ]
    (try dsimp only at hSW)
    go_simp
    with_reducible rfl
  (try simp only [getElem_toArray, getElem_cons_zero, getElem_cons_succ, Act.put, setIfInBounds_toArray, set_cons_zero, set_cons_succ])
  refine wpAnyJ_take 3 (v := ?_) (by first | exact hF | exact wideFn) (hs3) rfl (by kernel_rfl) (by kernel_rfl) (by kernel_rfl) (by kernel_rfl) rfl ?_ (by first | exact fun _ _ _ h => h | exact fun _ _ _ h => hQ2 _ _ _ _ _ h) ?_
  rotate_left
  · intro W hSW
    simp only [getElem_toArray, getElem_cons_zero, getElem_cons_succ]
    (try dsimp only at hSW)
    go_simp
    with_reducible rfl
  (try simp only [getElem_toArray, getElem_cons_zero, getElem_cons_succ, Act.put, setIfInBounds_toArray, set_cons_zero, set_cons_succ])
  refine wpAnyJ_take 4 (v := ?_) (by first | exact hF | exact wideFn) (hs3) rfl (by kernel_rfl) (by kernel_rfl) (by kernel_rfl) (by kernel_rfl) rfl ?_ (by first | exact fun _ _ _ h => h | exact fun _ _ _ h => hQ2 _ _ _ _ _ h) ?_
  rotate_left
  · intro W hSW
    simp only [getElem_toArray, getElem_cons_zero, getElem_cons_succ]
    (try dsimp only at hSW)
    go_simp
    with_reducible rfl
  (try simp only [getElem_toArray, getElem_cons_zero, getElem_cons_succ, Act.put, setIfInBounds_toArray, set_cons_zero, set_cons_succ])
  refine wpAnyJ_take 5 (v := ?_) (by first | exact hF | exact wideFn) (hs3) rfl (by kernel_rfl) (by kernel_rfl) (by kernel_rfl) (by kernel_rfl) rfl ?_ (by first | exact fun _ _ _ h => h | exact fun _ _ _ h => hQ2 _ _ _ _ _ h) ?_
  rotate_left
  · intro W hSW
    simp only [getElem_toArray, getElem_cons_zero, getElem_cons_succ]
    (try dsimp only at hSW)
    go_simp
    with_reducible rfl
  (try simp only [getElem_toArray, getElem_cons_zero, getElem_cons_succ, Act.put, setIfInBounds_toArray, set_cons_zero, set_cons_succ])
  refine wpAnyJ_take 6 (v := ?_) (by first | exact hF | exact wideFn) (hs3) rfl (by kernel_rfl) (by kernel_rfl) (by kernel_rfl) (by kernel_rfl) rfl ?_ (by first | exact fun _ _ _ h => h | exact fun _ _ _ h => hQ2 _ _ _ _ _ h) ?_
  rotate_left
  · intro W hSW
    simp only [getElem_toArray, getElem_cons_zero, getElem_cons_succ]
    (try dsimp only at hSW)
    go_simp
    with_reducible rfl
  (try simp only [getElem_toArray, getElem_cons_zero, getElem_cons_succ, Act.put, setIfInBounds_toArray, set_cons_zero, set_cons_succ])
  refine wpAnyJ_take 7 (v := ?_) (by first | exact hF | exact wideFn) (hs3) rfl (by kernel_rfl) (by kernel_rfl) (by kernel_rfl) (by kernel_rfl) rfl ?_ (by first | exact fun _ _ _ h => h | exact fun _ _ _ h => hQ2 _ _ _ _ _ h) ?_
  rotate_left
  · intro W hSW
    simp only [getElem_toArray, getElem_cons_zero, getElem_cons_succ]
    (try dsimp only at hSW)
    go_simp
    with_reducible rfl
  (try simp only [getElem_toArray, getElem_cons_zero, getElem_cons_succ, Act.put, setIfInBounds_toArray, set_cons_zero, set_cons_succ])
  refine wpAnyJ_take 8 (v := ?_) (by first | exact hF | exact wideFn) (hs3) rfl (by kernel_rfl) (by kernel_rfl) (by kernel_rfl) (by kernel_rfl) rfl ?_ (by first | exact fun _ _ _ h => h | exact fun _ _ _ h => hQ2 _ _ _ _ _ h) ?_
  rotate_left
  · intro W hSW
    simp only [getElem_toArray, getElem_cons_zero, getElem_cons_succ]
    (try dsimp only at hSW)
    go_simp
    with_reducible rfl
  (try simp only [getElem_toArray, getElem_cons_zero, getElem_cons_succ, Act.put, setIfInBounds_toArray, set_cons_zero, set_cons_succ])
  refine wpAnyJ_take 9 (v := ?_) (by first | exact hF | exact wideFn) (hs3) rfl (by kernel_rfl) (by kernel_rfl) (by kernel_rfl) (by kernel_rfl) rfl ?_ (by first | exact fun _ _ _ h => h | exact fun _ _ _ h => hQ2 _ _ _ _ _ h) ?_
  rotate_left
  · intro W hSW
    simp only [getElem_toArray, getElem_cons_zero, getElem_cons_succ]
    (try dsimp only at hSW)
    go_simp
    with_reducible rfl
  (try simp only [getElem_toArray, getElem_cons_zero, getElem_cons_succ, Act.put, setIfInBounds_toArray, set_cons_zero, set_cons_succ])
  refine wpAnyJ_take 10 (v := ?_) (by first | exact hF | exact wideFn) (hs3) rfl (by kernel_rfl) (by kernel_rfl) (by kernel_rfl) (by kernel_rfl) rfl ?_ (by first | exact fun _ _ _ h => h | exact fun _ _ _ h => hQ2 _ _ _ _ _ h) ?_
  rotate_left
  · intro W hSW
    simp only [getElem_toArray, getElem_cons_zero, getElem_cons_succ]
    (try dsimp only at hSW)
    go_simp
    with_reducible rfl
  (try simp only [getElem_toArray, getElem_cons_zero, getElem_cons_succ, Act.put, setIfInBounds_toArray, set_cons_zero, set_cons_succ])
  refine wpAnyJ_take 11 (v := ?_) (by first | exact hF | exact wideFn) (hs3) rfl (by kernel_rfl) (by kernel_rfl) (by kernel_rfl) (by kernel_rfl) rfl ?_ (by first | exact fun _ _ _ h => h | exact fun _ _ _ h => hQ2 _ _ _ _ _ h) ?_
  rotate_left
  · intro W hSW
    simp only [getElem_toArray, getElem_cons_zero, getElem_cons_succ]
    (try dsimp only at hSW)
    go_simp
    with_reducible rfl
  (try simp only [getElem_toArray, getElem_cons_zero, getElem_cons_succ, Act.put, setIfInBounds_toArray, set_cons_zero, set_cons_succ])
  refine wpAnyJ_take 12 (v := ?_) (by first | exact hF | exact wideFn) (hs3) rfl (by kernel_rfl) (by kernel_rfl) (by kernel_rfl) (by kernel_rfl) rfl ?_ (by first | exact fun _ _ _ h => h | exact fun _ _ _ h => hQ2 _ _ _ _ _ h) ?_
  rotate_left
  · intro W hSW
    simp only [getElem_toArray, getElem_cons_zero, getElem_cons_succ]
    (try dsimp only at hSW)
    go_simp
    with_reducible rfl
  (try simp only [getElem_toArray, getElem_cons_zero, getElem_cons_succ, Act.put, setIfInBounds_toArray, set_cons_zero, set_cons_succ])
  refine wpAnyJ_take 13 (v := ?_) (by first | exact hF | exact wideFn) (hs3) rfl (by kernel_rfl) (by kernel_rfl) (by kernel_rfl) (by kernel_rfl) rfl ?_ (by first | exact fun _ _ _ h => h | exact fun _ _ _ h => hQ2 _ _ _ _ _ h) ?_
  rotate_left
  · intro W hSW
    simp only [getElem_toArray, getElem_cons_zero, getElem_cons_succ]
    (try dsimp only at hSW)
    go_simp
    with_reducible rfl
  (try simp only [getElem_toArray, getElem_cons_zero, getElem_cons_succ, Act.put, setIfInBounds_toArray, set_cons_zero, set_cons_succ])
  refine wpAnyJ_take 14 (v := ?_) (by first | exact hF | exact wideFn) (hs3) rfl (by kernel_rfl) (by kernel_rfl) (by kernel_rfl) (by kernel_rfl) rfl ?_ (by first | exact fun _ _ _ h => h | exact fun _ _ _ h => hQ2 _ _ _ _ _ h) ?_
  rotate_left
  · intro W hSW
    simp only [getElem_toArray, getElem_cons_zero, getElem_cons_succ]
    (try dsimp only at hSW)
    go_simp
    with_reducible rfl
  (try simp only [getElem_toArray, getElem_cons_zero, getElem_cons_succ, Act.put, setIfInBounds_toArray, set_cons_zero, set_cons_succ])
  refine wpAnyJ_take 15 (v := ?_) (by first | exact hF | exact wideFn) (hs3) rfl (by kernel_rfl) (by kernel_rfl) (by kernel_rfl) (by kernel_rfl) rfl ?_ (by first | exact fun _ _ _ h => h | exact fun _ _ _ h => hQ2 _ _ _ _ _ h) ?_
  rotate_left
  · intro W hSW
    simp only [getElem_toArray, getElem_cons_zero, getElem_cons_succ]
    (try dsimp only at hSW)
    go_simp
    with_reducible rfl
  (try simp only [getElem_toArray, getElem_cons_zero, getElem_cons_succ, Act.put, setIfInBounds_toArray, set_cons_zero, set_cons_succ])
  refine wpAnyJ_done (by kernel_rfl) ?_
  go_wp2_with fail
  go_ret
  exact ⟨rfl, HB0.out.trans (HBE.out.mono (by have := HB0.out.size; rw [hg] at this; exact this))⟩
end Go.Proofs.YtmpegkojencbjaaDoor
/- School: the editor's edit, walked: no error. -/
namespace Go.Proofs.YtmpegkojencbjaaDoor
open List (getElem_toArray getElem_cons_zero getElem_cons_succ setIfInBounds_toArray set_cons_zero set_cons_succ)
open Go Go.RowKit Go.Shelf
set_option maxHeartbeats 4000000
set_option maxRecDepth 100000
theorem SR.one (W : World) (x : Wd) : SR (W.alloc (.cells #[.string x] 9)) (W.alloc (.cells #[.string x] 9)).heap.size (some ⟨W.heap.size, 0, none⟩) [x] := fun _ => by
  refine ⟨W.heap.size, 0, rfl, by simp, fun k i hk hi => ?_⟩
  have hk : k = 0 := by simp at hk; exact hk
  obtain rfl := hk
  obtain rfl : i = 0 := by omega
  have h := (Blk.new W 9 #[.string x]).cell 0
  simpa using h
section
variable {w W : World} {X : Nat} {A : Option Addr} {c : Nat} {a : List Wd} {i : Nat} {v : Value} {l : List Wd}
theorem EX.ext {W' : World} (h : EX w W X A c a i v l) (hb : Below W.heap.size W W') : EX w W' X A c a i v l :=
  ⟨h.below.trans (hb.mono h.below.size), h.lo, h.blk.ext hb, h.own.ext hb⟩
/-- a word is put behind -/
theorem EX.push (h : EX w W X A c a i v l) (x : Wd) (hl : l.length ≤ 1000000 - 1) :
    ∃ A' n' c' w', (Builtin.append_ #[22, 22] 22 #[v, .slice (some ⟨W.heap.size, 0, none⟩) 1 1]).run Tryd.prog (W.alloc (.cells #[.string x] 9)) = .ok (.slice A' n' c') w' ∧
      Blk w' X 92 #[.slice A a.length c, .int .i64 i, v] ∧ (W.alloc (.cells #[.string x] 9)).grownBy w' v.ownBlock ∧
      EX w (w'.setCell ⟨X, 2, none⟩ (.slice A' n' c')) X A c a i (.slice A' n' c') (l ++ [x]) ∧ KX W (w'.setCell ⟨X, 2, none⟩ (.slice A' n' c')) X v.ownBlock ∧
      ((Value.slice A' n' c').ownBlock = v.ownBlock ∨ ∀ k, (Value.slice A' n' c').ownBlock = some k → W.heap.size ≤ k) := by
  have hBA : Below W.heap.size W (W.alloc (.cells #[.string x] 9)) := (Below.refl _ _).alloc (Nat.le_refl _) _
  have h1 := h.ext hBA
  obtain ⟨v', w', hr, ho, hg, hrow⟩ := h1.own.pushes (some ⟨W.heap.size, 0, none⟩) 1 [x] (SR.one W x) (by simp; omega) h1.below.size
  obtain ⟨A', c', hv'⟩ := own_shape ho
  subst hv'
  have hb : Blk w' X 92 #[.slice A a.length c, .int .i64 i, v] := h1.blk.grown hg (fun e => own_blk_ne h1.own h1.blk (by decide) e.symm)
  refine ⟨A', _, c', w', hr, hb, hg, ⟨((h1.below.grown hg h1.below.size (fun k hk => (World.ownsRow.lt h1.own k hk).1)).setCell h1.lo _), h1.lo, ?_, ?_⟩, ((KX.of_below X _ hBA).grown hg).set 2 _, hrow.imp id (fun h k hk => ?_)⟩
  · exact hb.set_ 2 _
  · exact World.ownsRow.kept ho (grownBy_setC w' X 2 _) (.inr (own_blk_ne ho hb (by decide)))
  · rw [h] at hk
    injection hk with hk
    have := hBA.size
    omega
/-- the editor's place is set -/
theorem EX.move (h : EX w W X A c a i v l) (j : Nat) : EX w (W.setCell ⟨X, 1, none⟩ (.int .i64 j)) X A c a j v l :=
  ⟨h.below.setCell h.lo _, h.lo, h.blk.set_ 1 _, World.ownsRow.kept h.own (grownBy_setC W X 1 _) (.inr (own_blk_ne h.own h.blk (by decide)))⟩
end
theorem KX.both {W w2 w4 : World} {X : Nat} {v v2 v3 : Value} (h : KX W w2 X v.ownBlock) (hr : v2.ownBlock = v.ownBlock ∨ ∀ k, v2.ownBlock = some k → W.heap.size ≤ k) (h2 : KX w2 w4 X v2.ownBlock) (hr2 : v3.ownBlock = v2.ownBlock ∨ ∀ k, v3.ownBlock = some k → w2.heap.size ≤ k) :
    KX W w4 X v.ownBlock ∧ (v3.ownBlock = v.ownBlock ∨ ∀ k, v3.ownBlock = some k → W.heap.size ≤ k) := by
  have hs := h.size
  refine ⟨h.trans h2 hr, ?_⟩
  rcases hr2 with e | h3
  · rw [e]; exact hr
  · exact .inr (fun k hk => Nat.le_trans hs (h3 k hk))
/-- what an edit that is done leaves -/
def EdPost (w W : World) (X : Nat) (A : Option Addr) (c : Nat) (a : List Wd) (j : Nat) (v : Value) (l' : List Wd) (e : Ending) (w' : World) : Prop :=
  ∃ v', e = .returned (.int .i64 0) ∧ EX w w' X A c a j v' l' ∧ KX W w' X v.ownBlock ∧ (v'.ownBlock = v.ownBlock ∨ ∀ k, v'.ownBlock = some k → W.heap.size ≤ k)
theorem edit_add (w W : World) (X : Nat) (A : Option Addr) (c : Nat) (a : List Wd) (i : Nat) (v : Value) (l : List Wd) (t : Nat) (old new : Wd) (hX : EX w W X A c a i v l) (hA : SR w w.heap.size A a) (hit : i ≤ t) (hta : t ≤ a.length) (hac : a.length ≤ c) (hc : c ≤ maxLen) (hl : l.length + t ≤ 100000) :
    Calls Tryd.prog 56 #[.pointer (some ⟨X, 0, none⟩), .agg #[.int .i64 3, .int .i64 (t : Nat), .string old, .string new]] W (EdPost w W X A c a t v (takeL a i t l ++ [new])) := by
  have HB0 := hide ((Below.refl W.heap.size W).alloc (Nat.le_refl _) (.cells #[.int .i64 3, .int .i64 (t : Nat), .string old, .string new] 86))
  have E1 := Blk.new W 86 #[.int .i64 3, .int .i64 (t : Nat), .string old, .string new]
  have X1 := hX.ext HB0.out
  have hown := World.ownsRow.lt hX.own
  obtain ⟨n, hn⟩ : ∃ n, a.length = n := ⟨_, rfl⟩
  obtain ⟨g, hg⟩ : ∃ g, W.heap.size = g := ⟨_, rfl⟩
  rw [hg] at E1 hown
  obtain ⟨w1, hw1⟩ : ∃ w1, W.alloc (.cells #[.int .i64 3, .int .i64 (t : Nat), .string old, .string new] 86) = w1 := ⟨_, rfl⟩
  rw [hw1] at E1 X1 HB0
  have HS1 : Hid (∀ V, Below w1.heap.size w1 V → V.cell? ⟨X, 0, none⟩ = some (.slice A n c) ∧ V.cell? ⟨g, 0, none⟩ = some (.int .i64 3) ∧ V.cell? ⟨g, 1, none⟩ = some (.int .i64 (t : Nat)) ∧ V.cell? ⟨g, 2, none⟩ = some (.string old) ∧ V.cell? ⟨g, 3, none⟩ = some (.string new)) := hide (fun V h => by
    have h2 := X1.blk.ext h
    rw [hn] at h2
    exact ⟨(blk3 h2).2.1, (blk4 (E1.ext h)).2⟩)
  have HGX : Hid (g ≠ X) := hide (E1.ne_ X1.blk (by decide))
  have HT : Hid (∀ V, Below w1.heap.size w1 V → Calls Tryd.prog 57 #[.pointer (some ⟨X, 0, none⟩), .int .i64 t] V fun e w' => ∃ v', e = .returned (.tuple #[]) ∧ EX w w' X A c a t v' (takeL a i t l) ∧ KX V w' X v.ownBlock ∧ (v'.ownBlock = v.ownBlock ∨ ∀ k, v'.ownBlock = some k → V.heap.size ≤ k)) := hide (fun V h => take_any w V X A c a i t v l (X1.ext h) hA hit hta hac hc (by omega))
  have HL2 : Hid ((takeL a i t l).length ≤ 1000000 - 1) := hide (by unfold takeL; rw [List.length_append, List.length_take]; omega)
  have HE1 := hide E1
  have HOWN := hide hown
  have HSZ := hide hg
  have hgs : g < w1.heap.size := E1.lt
  rw [hn] at hta hac
  unfold maxLen at hc
  unfold EdPost
  clear E1 X1 hX hA hown
  have k1 : ¬ (n : Int) < (t : Int) := by omega
  have m0 : (3 : Int) ≠ 2 := by omega
  rw [hg]
  by_cases hn2 : t = n
  · have k2 : ((t : Int) == (n : Int)) = true := by rw [hn2]; exact beq_self_eq_true _
    have k3 : (t == n) = true := by rw [hn2]; exact beq_self_eq_true _
    clear hn2 hta
    go_enter Tryd.func56, Tryd.ntmps56
    go_upto_region 1 with fail
    have HBD := hide ((Below.refl w1.heap.size w1).drew)
    refine wp_region_J (fun W : World => W.cell? ⟨X, 0, none⟩ = some (.slice A n c) ∧ W.cell? ⟨g, 0, none⟩ = some (.int .i64 3) ∧ W.cell? ⟨g, 1, none⟩ = some (.int .i64 (t : Nat)) ∧ W.cell? ⟨g, 2, none⟩ = some (.string old) ∧ W.cell? ⟨g, 3, none⟩ = some (.string new)) (by kernel_rfl) ?_
    generalize w1.drew = wd at HBD ⊢
    have hs1 := HS1.out _ HBD.out
    refine wpAnyJ_take 0 (v := ?_) (by first | exact hF | exact wideFn) (hs1) rfl (by kernel_rfl) (by kernel_rfl) (by kernel_rfl) (by kernel_rfl) rfl ?_ (by first | exact fun _ _ _ h => h | exact fun _ _ _ h => hQ2 _ _ _ _ _ h) ?_
    rotate_left
    · intro W hSW
      simp only [getElem_toArray, getElem_cons_zero, getElem_cons_succ]
      (try dsimp only at hSW)
      go_simp
      with_reducible rfl
    (try simp only [getElem_toArray, getElem_cons_zero, getElem_cons_succ, Act.put, setIfInBounds_toArray, set_cons_zero, set_cons_succ])
    refine wpAnyJ_take 1 (v := ?_) (by first | exact hF | exact wideFn) (hs1) rfl (by kernel_rfl) (by kernel_rfl) (by kernel_rfl) (by kernel_rfl) rfl ?_ (by first | exact fun _ _ _ h => h | exact fun _ _ _ h => hQ2 _ _ _ _ _ h) ?_
    rotate_left
    · intro W hSW
      simp only [getElem_toArray, getElem_cons_zero, getElem_cons_succ]
      (try dsimp only at hSW)
      go_simp
      with_reducible rfl
    (try simp only [getElem_toArray, getElem_cons_zero, getElem_cons_succ, Act.put, setIfInBounds_toArray, set_cons_zero, set_cons_succ])
    refine wpAnyJ_take 2 (v := ?_) (by first | exact hF | exact wideFn) (hs1) rfl (by kernel_rfl) (by kernel_rfl) (by kernel_rfl) (by kernel_rfl) rfl ?_ (by first | exact fun _ _ _ h => h | exact fun _ _ _ h => hQ2 _ _ _ _ _ h) ?_
    rotate_left
    · intro W hSW
      simp only [getElem_toArray, getElem_cons_zero, getElem_cons_succ]
      (try dsimp only at hSW)
      go_simp
      with_reducible rfl
    (try simp only [getElem_toArray, getElem_cons_zero, getElem_cons_succ, Act.put, setIfInBounds_toArray, set_cons_zero, set_cons_succ])
    refine wpAnyJ_take 3 (v := ?_) (by first | exact hF | exact wideFn) (hs1) rfl (by kernel_rfl) (by kernel_rfl) (by kernel_rfl) (by kernel_rfl) rfl ?_ (by first | exact fun _ _ _ h => h | exact fun _ _ _ h => hQ2 _ _ _ _ _ h) ?_
    rotate_left
    · intro W hSW
      simp only [getElem_toArray, getElem_cons_zero, getElem_cons_succ]
      (try dsimp only at hSW)
      go_simp
      with_reducible rfl
    (try simp only [getElem_toArray, getElem_cons_zero, getElem_cons_succ, Act.put, setIfInBounds_toArray, set_cons_zero, set_cons_succ])
    refine wpAnyJ_take 4 (v := ?_) (by first | exact hF | exact wideFn) (hs1) rfl (by kernel_rfl) (by kernel_rfl) (by kernel_rfl) (by kernel_rfl) rfl ?_ (by first | exact fun _ _ _ h => h | exact fun _ _ _ h => hQ2 _ _ _ _ _ h) ?_
    rotate_left
    · intro W hSW
      simp only [getElem_toArray, getElem_cons_zero, getElem_cons_succ]
      (try dsimp only at hSW)
      go_simp
      with_reducible rfl
    (try simp only [getElem_toArray, getElem_cons_zero, getElem_cons_succ, Act.put, setIfInBounds_toArray, set_cons_zero, set_cons_succ])
    refine wpAnyJ_take 5 (v := ?_) (by first | exact hF | exact wideFn) (hs1) rfl (by kernel_rfl) (by kernel_rfl) (by kernel_rfl) (by kernel_rfl) rfl ?_ (by first | exact fun _ _ _ h => h | exact fun _ _ _ h => hQ2 _ _ _ _ _ h) ?_
    rotate_left
    · intro W hSW
      simp only [getElem_toArray, getElem_cons_zero, getElem_cons_succ]
      (try dsimp only at hSW)
      go_simp
      with_reducible rfl
    (try simp only [getElem_toArray, getElem_cons_zero, getElem_cons_succ, Act.put, setIfInBounds_toArray, set_cons_zero, set_cons_succ])
    refine wpAnyJ_take 6 (v := ?_) (by first | exact hF | exact wideFn) (hs1) rfl (by kernel_rfl) (by kernel_rfl) (by kernel_rfl) (by kernel_rfl) rfl ?_ (by first | exact fun _ _ _ h => h | exact fun _ _ _ h => hQ2 _ _ _ _ _ h) ?_
    rotate_left
    · intro W hSW
      simp only [getElem_toArray, getElem_cons_zero, getElem_cons_succ]
      (try dsimp only at hSW)
      go_simp
      with_reducible rfl
    (try simp only [getElem_toArray, getElem_cons_zero, getElem_cons_succ, Act.put, setIfInBounds_toArray, set_cons_zero, set_cons_succ])
    refine wpAnyJ_take 7 (v := ?_) (by first | exact hF | exact wideFn) (hs1) rfl (by kernel_rfl) (by kernel_rfl) (by kernel_rfl) (by kernel_rfl) rfl ?_ (by first | exact fun _ _ _ h => h | exact fun _ _ _ h => hQ2 _ _ _ _ _ h) ?_
    rotate_left
    · intro W hSW
      simp only [getElem_toArray, getElem_cons_zero, getElem_cons_succ]
      (try dsimp only at hSW)
      go_simp
      with_reducible rfl
    (try simp only [getElem_toArray, getElem_cons_zero, getElem_cons_succ, Act.put, setIfInBounds_toArray, set_cons_zero, set_cons_succ])
    refine wpAnyJ_take 8 (v := ?_) (by first | exact hF | exact wideFn) (hs1) rfl (by kernel_rfl) (by kernel_rfl) (by kernel_rfl) (by kernel_rfl) rfl ?_ (by first | exact fun _ _ _ h => h | exact fun _ _ _ h => hQ2 _ _ _ _ _ h) ?_
    rotate_left
    · intro W hSW
      simp only [getElem_toArray, getElem_cons_zero, getElem_cons_succ]
      (try dsimp only at hSW)
      go_simp
      with_reducible rfl
    (try simp only [getElem_toArray, getElem_cons_zero, getElem_cons_succ, Act.put, setIfInBounds_toArray, set_cons_zero, set_cons_succ])
    refine wpAnyJ_take 9 (v := ?_) (by first | exact hF | exact wideFn) (hs1) rfl (by kernel_rfl) (by kernel_rfl) (by kernel_rfl) (by kernel_rfl) rfl ?_ (by first | exact fun _ _ _ h => h | exact fun _ _ _ h => hQ2 _ _ _ _ _ h) ?_
    rotate_left
    · intro W hSW
      simp only [getElem_toArray, getElem_cons_zero, getElem_cons_succ]
      (try dsimp only at hSW)
      go_simp
      with_reducible rfl
    (try simp only [getElem_toArray, getElem_cons_zero, getElem_cons_succ, Act.put, setIfInBounds_toArray, set_cons_zero, set_cons_succ])
    refine wpAnyJ_take 10 (v := ?_) (by first | exact hF | exact wideFn) (hs1) rfl (by kernel_rfl) (by kernel_rfl) (by kernel_rfl) (by kernel_rfl) rfl ?_ (by first | exact fun _ _ _ h => h | exact fun _ _ _ h => hQ2 _ _ _ _ _ h) ?_
    rotate_left
    · intro W hSW
      simp only [getElem_toArray, getElem_cons_zero, getElem_cons_succ]
      (try dsimp only at hSW)
      go_simp
      with_reducible rfl
    (try simp only [getElem_toArray, getElem_cons_zero, getElem_cons_succ, Act.put, setIfInBounds_toArray, set_cons_zero, set_cons_succ])
    refine wpAnyJ_take 11 (v := ?_) (by first | exact hF | exact wideFn) (hs1) rfl (by kernel_rfl) (by kernel_rfl) (by kernel_rfl) (by kernel_rfl) rfl ?_ (by first | exact fun _ _ _ h => h | exact fun _ _ _ h => hQ2 _ _ _ _ _ h) ?_
    rotate_left
    · intro W hSW
      simp only [getElem_toArray, getElem_cons_zero, getElem_cons_succ]
      (try dsimp only at hSW)
      go_simp
      with_reducible rfl
    (try simp only [getElem_toArray, getElem_cons_zero, getElem_cons_succ, Act.put, setIfInBounds_toArray, set_cons_zero, set_cons_succ])
    refine wpAnyJ_take 12 (v := ?_) (by first | exact hF | exact wideFn) (hs1) rfl (by kernel_rfl) (by kernel_rfl) (by kernel_rfl) (by kernel_rfl) rfl ?_ (by first | exact fun _ _ _ h => h | exact fun _ _ _ h => hQ2 _ _ _ _ _ h) ?_
    rotate_left
    · intro W hSW
      simp only [getElem_toArray, getElem_cons_zero, getElem_cons_succ]
      (try dsimp only at hSW)
      go_simp
      with_reducible rfl
    (try simp only [getElem_toArray, getElem_cons_zero, getElem_cons_succ, Act.put, setIfInBounds_toArray, set_cons_zero, set_cons_succ])
    refine wpAnyJ_take 13 (v := ?_) (by first | exact hF | exact wideFn) (hs1) rfl (by kernel_rfl) (by kernel_rfl) (by kernel_rfl) (by kernel_rfl) rfl ?_ (by first | exact fun _ _ _ h => h | exact fun _ _ _ h => hQ2 _ _ _ _ _ h) ?_
    rotate_left
    · intro W hSW
      simp only [getElem_toArray, getElem_cons_zero, getElem_cons_succ]
      (try dsimp only at hSW)
      go_simp
      with_reducible rfl
    (try simp only [getElem_toArray, getElem_cons_zero, getElem_cons_succ, Act.put, setIfInBounds_toArray, set_cons_zero, set_cons_succ])
    refine wpAnyJ_take 14 (v := ?_) (by first | exact hF | exact wideFn) (hs1) rfl (by kernel_rfl) (by kernel_rfl) (by kernel_rfl) (by kernel_rfl) rfl ?_ (by first | exact fun _ _ _ h => h | exact fun _ _ _ h => hQ2 _ _ _ _ _ h) ?_
    rotate_left
    · intro W hSW
      simp only [getElem_toArray, getElem_cons_zero, getElem_cons_succ]
      (try dsimp only at hSW)
      go_simp
      with_reducible rfl
    (try simp only [getElem_toArray, getElem_cons_zero, getElem_cons_succ, Act.put, setIfInBounds_toArray, set_cons_zero, set_cons_succ])
    refine wpAnyJ_take 15 (v := ?_) (by first | exact hF | exact wideFn) (hs1) rfl (by kernel_rfl) (by kernel_rfl) (by kernel_rfl) (by kernel_rfl) rfl ?_ (by first | exact fun _ _ _ h => h | exact fun _ _ _ h => hQ2 _ _ _ _ _ h) ?_
    rotate_left
    · intro W hSW
      simp only [getElem_toArray, getElem_cons_zero, getElem_cons_succ]
      (try dsimp only at hSW)
      go_simp
      with_reducible rfl
    (try simp only [getElem_toArray, getElem_cons_zero, getElem_cons_succ, Act.put, setIfInBounds_toArray, set_cons_zero, set_cons_succ])
    refine wpAnyJ_take 16 (v := ?_) (by first | exact hF | exact wideFn) (hs1) rfl (by kernel_rfl) (by kernel_rfl) (by kernel_rfl) (by kernel_rfl) rfl ?_ (by first | exact fun _ _ _ h => h | exact fun _ _ _ h => hQ2 _ _ _ _ _ h) ?_
    rotate_left
    · intro W hSW
      simp only [getElem_toArray, getElem_cons_zero, getElem_cons_succ]
      (try dsimp only at hSW)
      go_simp
      with_reducible rfl
    (try simp only [getElem_toArray, getElem_cons_zero, getElem_cons_succ, Act.put, setIfInBounds_toArray, set_cons_zero, set_cons_succ])
    refine wpAnyJ_take 17 (v := ?_) (by first | exact hF | exact wideFn) (hs1) rfl (by kernel_rfl) (by kernel_rfl) (by kernel_rfl) (by kernel_rfl) rfl ?_ (by first | exact fun _ _ _ h => h | exact fun _ _ _ h => hQ2 _ _ _ _ _ h) ?_
    rotate_left
    · intro W hSW
      simp only [getElem_toArray, getElem_cons_zero, getElem_cons_succ]
      (try dsimp only at hSW)
      go_simp
      with_reducible rfl
    (try simp only [getElem_toArray, getElem_cons_zero, getElem_cons_succ, Act.put, setIfInBounds_toArray, set_cons_zero, set_cons_succ])
    refine wpAnyJ_take 18 (v := ?_) (by first | exact hF | exact wideFn) (hs1) rfl (by kernel_rfl) (by kernel_rfl) (by kernel_rfl) (by kernel_rfl) rfl ?_ (by first | exact fun _ _ _ h => h | exact fun _ _ _ h => hQ2 _ _ _ _ _ h) ?_
    rotate_left
    · intro W hSW
      simp only [getElem_toArray, getElem_cons_zero, getElem_cons_succ]
      (try dsimp only at hSW)
      go_simp
      with_reducible rfl
    (try simp only [getElem_toArray, getElem_cons_zero, getElem_cons_succ, Act.put, setIfInBounds_toArray, set_cons_zero, set_cons_succ])
    refine wpAnyJ_take 19 (v := ?_) (by first | exact hF | exact wideFn) (hs1) rfl (by kernel_rfl) (by kernel_rfl) (by kernel_rfl) (by kernel_rfl) rfl ?_ (by first | exact fun _ _ _ h => h | exact fun _ _ _ h => hQ2 _ _ _ _ _ h) ?_
    rotate_left
    · intro W hSW
      simp only [getElem_toArray, getElem_cons_zero, getElem_cons_succ]
      (try dsimp only at hSW)
      go_simp
      with_reducible rfl
    (try simp only [getElem_toArray, getElem_cons_zero, getElem_cons_succ, Act.put, setIfInBounds_toArray, set_cons_zero, set_cons_succ])
    refine wpAnyJ_take 20 (v := ?_) (by first | exact hF | exact wideFn) (hs1) rfl (by kernel_rfl) (by kernel_rfl) (by kernel_rfl) (by kernel_rfl) rfl ?_ (by first | exact fun _ _ _ h => h | exact fun _ _ _ h => hQ2 _ _ _ _ _ h) ?_
    rotate_left
    · intro W hSW
      simp only [getElem_toArray, getElem_cons_zero, getElem_cons_succ]
      (try dsimp only at hSW)
      go_simp
      with_reducible rfl
    (try simp only [getElem_toArray, getElem_cons_zero, getElem_cons_succ, Act.put, setIfInBounds_toArray, set_cons_zero, set_cons_succ])
    refine wpAnyJ_take 21 (v := ?_) (by first | exact hF | exact wideFn) (hs1) rfl (by kernel_rfl) (by kernel_rfl) (by kernel_rfl) (by kernel_rfl) rfl ?_ (by first | exact fun _ _ _ h => h | exact fun _ _ _ h => hQ2 _ _ _ _ _ h) ?_
    rotate_left
    · intro W hSW
      simp only [getElem_toArray, getElem_cons_zero, getElem_cons_succ]
      (try dsimp only at hSW)
      go_simp
      with_reducible rfl
    (try simp only [getElem_toArray, getElem_cons_zero, getElem_cons_succ, Act.put, setIfInBounds_toArray, set_cons_zero, set_cons_succ])
    refine wpAnyJ_take 22 (v := ?_) (by first | exact hF | exact wideFn) (hs1) rfl (by kernel_rfl) (by kernel_rfl) (by kernel_rfl) (by kernel_rfl) rfl ?_ (by first | exact fun _ _ _ h => h | exact fun _ _ _ h => hQ2 _ _ _ _ _ h) ?_
    rotate_left
    · intro W hSW
      simp only [getElem_toArray, getElem_cons_zero, getElem_cons_succ]
      (try dsimp only at hSW)
      go_simp
      with_reducible rfl
    (try simp only [getElem_toArray, getElem_cons_zero, getElem_cons_succ, Act.put, setIfInBounds_toArray, set_cons_zero, set_cons_succ])
    refine wpAnyJ_done (by kernel_rfl) ?_
    go_upto_region 3 with fail
    have HBE := hide (HBD.out.trans ((Below.refl wd.heap.size wd).drew.mono HBD.out.size))
    refine wp_region_J (fun W : World => W.cell? ⟨X, 0, none⟩ = some (.slice A n c) ∧ W.cell? ⟨g, 0, none⟩ = some (.int .i64 3) ∧ W.cell? ⟨g, 1, none⟩ = some (.int .i64 (t : Nat)) ∧ W.cell? ⟨g, 2, none⟩ = some (.string old) ∧ W.cell? ⟨g, 3, none⟩ = some (.string new)) (by kernel_rfl) ?_
    generalize wd.drew = we at HBE ⊢
    have hs3 := HS1.out _ HBE.out
    refine wpAnyJ_take 0 (v := ?_) (by first | exact hF | exact wideFn) (hs3) rfl (by kernel_rfl) (by kernel_rfl) (by kernel_rfl) (by kernel_rfl) rfl ?_ (by first | exact fun _ _ _ h => h | exact fun _ _ _ h => hQ2 _ _ _ _ _ h) ?_
    rotate_left
    · intro W hSW
      simp only [getElem_toArray, getElem_cons_zero, getElem_cons_succ]
      (try dsimp only at hSW)
      go_simp
      with_reducible rfl
    (try simp only [getElem_toArray, getElem_cons_zero, getElem_cons_succ, Act.put, setIfInBounds_toArray, set_cons_zero, set_cons_succ])
    refine wpAnyJ_take 1 (v := ?_) (by first | exact hF | exact wideFn) (hs3) rfl (by kernel_rfl) (by kernel_rfl) (by kernel_rfl) (by kernel_rfl) rfl ?_ (by first | exact fun _ _ _ h => h | exact fun _ _ _ h => hQ2 _ _ _ _ _ h) ?_
    rotate_left
    · intro W hSW
      simp only [getElem_toArray, getElem_cons_zero, getElem_cons_succ]
      (try dsimp only at hSW)
      go_simp
      with_reducible rfl
    (try simp only [getElem_toArray, getElem_cons_zero, getElem_cons_succ, Act.put, setIfInBounds_toArray, set_cons_zero, set_cons_succ])
    refine wpAnyJ_take 2 (v := ?_) (by first | exact hF | exact wideFn) (hs3) rfl (by kernel_rfl) (by kernel_rfl) (by kernel_rfl) (by kernel_rfl) rfl ?_ (by first | exact fun _ _ _ h => h | exact fun _ _ _ h => hQ2 _ _ _ _ _ h) ?_
    rotate_left
    · intro W hSW
      simp only [getElem_toArray, getElem_cons_zero, getElem_cons_succ]
      (try dsimp only at hSW)
      go_simp
      with_reducible rfl
    (try simp only [getElem_toArray, getElem_cons_zero, getElem_cons_succ, Act.put, setIfInBounds_toArray, set_cons_zero, set_cons_succ])
    refine wpAnyJ_take 3 (v := ?_) (by first | exact hF | exact wideFn) (hs3) rfl (by kernel_rfl) (by kernel_rfl) (by kernel_rfl) (by kernel_rfl) rfl ?_ (by first | exact fun _ _ _ h => h | exact fun _ _ _ h => hQ2 _ _ _ _ _ h) ?_
    rotate_left
    · intro W hSW
      simp only [getElem_toArray, getElem_cons_zero, getElem_cons_succ]
      (try dsimp only at hSW)
      go_simp
      with_reducible rfl
    (try simp only [getElem_toArray, getElem_cons_zero, getElem_cons_succ, Act.put, setIfInBounds_toArray, set_cons_zero, set_cons_succ])
    refine wpAnyJ_skip 4 (by first | exact hF | exact wideFn) (hs3) rfl (by kernel_rfl) (by kernel_rfl) (by kernel_rfl) (by kernel_rfl) rfl (by first | exact fun _ _ _ h => h | exact fun _ _ _ h => hQ2 _ _ _ _ _ h) ?_
    (try simp only [getElem_toArray, getElem_cons_zero, getElem_cons_succ, Act.put, setIfInBounds_toArray, set_cons_zero, set_cons_succ])
    refine wpAnyJ_skip 5 (by first | exact hF | exact wideFn) (hs3) rfl (by kernel_rfl) (by kernel_rfl) (by kernel_rfl) (by kernel_rfl) rfl (by first | exact fun _ _ _ h => h | exact fun _ _ _ h => hQ2 _ _ _ _ _ h) ?_
    (try simp only [getElem_toArray, getElem_cons_zero, getElem_cons_succ, Act.put, setIfInBounds_toArray, set_cons_zero, set_cons_succ])
    refine wpAnyJ_skip 6 (by first | exact hF | exact wideFn) (hs3) rfl (by kernel_rfl) (by kernel_rfl) (by kernel_rfl) (by kernel_rfl) rfl (by first | exact fun _ _ _ h => h | exact fun _ _ _ h => hQ2 _ _ _ _ _ h) ?_
    (try simp only [getElem_toArray, getElem_cons_zero, getElem_cons_succ, Act.put, setIfInBounds_toArray, set_cons_zero, set_cons_succ])
    refine wpAnyJ_skip 7 (by first | exact hF | exact wideFn) (hs3) rfl (by kernel_rfl) (by kernel_rfl) (by kernel_rfl) (by kernel_rfl) rfl (by first | exact fun _ _ _ h => h | exact fun _ _ _ h => hQ2 _ _ _ _ _ h) ?_
    (try simp only [getElem_toArray, getElem_cons_zero, getElem_cons_succ, Act.put, setIfInBounds_toArray, set_cons_zero, set_cons_succ])
    refine wpAnyJ_skip 8 (by first | exact hF | exact wideFn) (hs3) rfl (by kernel_rfl) (by kernel_rfl) (by kernel_rfl) (by kernel_rfl) rfl (by first | exact fun _ _ _ h => h | exact fun _ _ _ h => hQ2 _ _ _ _ _ h) ?_
    (try simp only [getElem_toArray, getElem_cons_zero, getElem_cons_succ, Act.put, setIfInBounds_toArray, set_cons_zero, set_cons_succ])
    refine wpAnyJ_skip 9 (by first | exact hF | exact wideFn) (hs3) rfl (by kernel_rfl) (by kernel_rfl) (by kernel_rfl) (by kernel_rfl) rfl (by first | exact fun _ _ _ h => h | exact fun _ _ _ h => hQ2 _ _ _ _ _ h) ?_
    (try simp only [getElem_toArray, getElem_cons_zero, getElem_cons_succ, Act.put, setIfInBounds_toArray, set_cons_zero, set_cons_succ])
    refine wpAnyJ_skip 10 (by first | exact hF | exact wideFn) (hs3) rfl (by kernel_rfl) (by kernel_rfl) (by kernel_rfl) (by kernel_rfl) rfl (by first | exact fun _ _ _ h => h | exact fun _ _ _ h => hQ2 _ _ _ _ _ h) ?_
    (try simp only [getElem_toArray, getElem_cons_zero, getElem_cons_succ, Act.put, setIfInBounds_toArray, set_cons_zero, set_cons_succ])
    refine wpAnyJ_skip 11 (by first | exact hF | exact wideFn) (hs3) rfl (by kernel_rfl) (by kernel_rfl) (by kernel_rfl) (by kernel_rfl) rfl (by first | exact fun _ _ _ h => h | exact fun _ _ _ h => hQ2 _ _ _ _ _ h) ?_
    (try simp only [getElem_toArray, getElem_cons_zero, getElem_cons_succ, Act.put, setIfInBounds_toArray, set_cons_zero, set_cons_succ])
    refine wpAnyJ_skip 12 (by first | exact hF | exact wideFn) (hs3) rfl (by kernel_rfl) (by kernel_rfl) (by kernel_rfl) (by kernel_rfl) rfl (by first | exact fun _ _ _ h => h | exact fun _ _ _ h => hQ2 _ _ _ _ _ h) ?_
    (try simp only [getElem_toArray, getElem_cons_zero, getElem_cons_succ, Act.put, setIfInBounds_toArray, set_cons_zero, set_cons_succ])
    refine wpAnyJ_skip 13 (by first | exact hF | exact wideFn) (hs3) rfl (by kernel_rfl) (by kernel_rfl) (by kernel_rfl) (by kernel_rfl) rfl (by first | exact fun _ _ _ h => h | exact fun _ _ _ h => hQ2 _ _ _ _ _ h) ?_
    (try simp only [getElem_toArray, getElem_cons_zero, getElem_cons_succ, Act.put, setIfInBounds_toArray, set_cons_zero, set_cons_succ])
    refine wpAnyJ_skip 14 (by first | exact hF | exact wideFn) (hs3) rfl (by kernel_rfl) (by kernel_rfl) (by kernel_rfl) (by kernel_rfl) rfl (by first | exact fun _ _ _ h => h | exact fun _ _ _ h => hQ2 _ _ _ _ _ h) ?_
    (try simp only [getElem_toArray, getElem_cons_zero, getElem_cons_succ, Act.put, setIfInBounds_toArray, set_cons_zero, set_cons_succ])
    refine wpAnyJ_take 15 (v := ?_) (by first | exact hF | exact wideFn) (hs3) rfl (by kernel_rfl) (by kernel_rfl) (by kernel_rfl) (by kernel_rfl) rfl ?_ (by first | exact fun _ _ _ h => h | exact fun _ _ _ h => hQ2 _ _ _ _ _ h) ?_
    rotate_left
    · intro W hSW
      simp only [getElem_toArray, getElem_cons_zero, getElem_cons_succ]
      (try dsimp only at hSW)
      go_simp
      with_reducible rfl
    (try simp only [getElem_toArray, getElem_cons_zero, getElem_cons_succ, Act.put, setIfInBounds_toArray, set_cons_zero, set_cons_succ])
    refine wpAnyJ_done (by kernel_rfl) ?_
    have hs5 := hs3.2.2.1
    go_wp2_with fail
    refine (HT.out _ HBE.out).mono ?_
    rintro e w2 ⟨v2, rfl, hX2, hK2, hr2⟩
    have HX2 := hide hX2
    have E2 := hide ((HE1.out.ext HBE.out).kx hK2 HGX.out (fun e => by have := HOWN.out g e.symm; omega))
    have HNE : Hid (some g ≠ v2.ownBlock) := hide (fun e => by
      rcases hr2 with h | h
      · rw [h] at e
        have := HOWN.out g e.symm
        omega
      · have := h g e.symm
        have := HBE.out.size
        omega)
    have HK2 := hide (And.intro hK2 hr2)
    clear hX2 hK2 hr2 hs1 hs3 hs5
    obtain ⟨g0', g0, -⟩ := blk4 E2.out
    obtain ⟨A3, n3, c3, w3, hrun, hb3, hg3, hX3, hK3, hr3⟩ := (HX2.out.ext (Below.refl w2.heap.size w2).drew).push new (by have := HL2.out; omega)
    try dsimp only at hrun
    have E3 := ((E2.out.ext (Below.refl w2.heap.size w2).drew).alloc (.cells #[.string new] 9)).grown hg3 (fun e => HNE.out e)
    have HS7 : Hid (w2.drew.cell? ⟨X, 2, none⟩ = some v2 ∧ w2.drew.cell? ⟨g, 3, none⟩ = some (.string new)) := hide ⟨(blk3 (HX2.out.blk.drew)).2.2.2.1, (blk4 (E2.out.drew)).2.2.2.2⟩
    have HS8 : Hid ((w2.drew.alloc (.cells #[.string new] 9)).cell? ⟨X, 2, none⟩ = some v2 ∧ (w2.drew.alloc (.cells #[.string new] 9)).cell? ⟨g, 3, none⟩ = some (.string new)) := hide ⟨(blk3 (HX2.out.blk.drew.alloc _)).2.2.2.1, (blk4 (E2.out.drew.alloc _)).2.2.2.2⟩
    have HS9 : Hid (w3.cell? ⟨X, 2, none⟩ = some v2 ∧ w3.cell? ⟨g, 3, none⟩ = some (.string new)) := hide ⟨(blk3 hb3).2.2.2.1, (blk4 E3).2.2.2.2⟩
    have HRUN := hide hrun
    have HX3 := hide hX3
    have HK3 := hide (And.intro hK3 hr3)
    have lX := hb3.lt
    have fX := hb3.frozen 2
    have hgX : g ≠ X := HGX.out
    have E4 := hide (E3.far (p := ⟨X, 2, none⟩) hgX (.slice A3 n3 c3))
    clear hrun hX3 hK3 hr3 E3 hg3 hb3
    go_upto_region 7 with fail
    refine wp_region_K (pickS [4, 6] (fun W : World => W.cell? ⟨X, 2, none⟩ = some v2 ∧ W.cell? ⟨g, 3, none⟩ = some (.string new)) (fun _ => True)) (by kernel_rfl) ?_
    refine wpAnyK_take 0 (v := ?_) (by first | exact hF | exact wideFn) trivial rfl (by kernel_rfl) (by kernel_rfl) (by kernel_rfl) (by kernel_rfl) rfl ?_ (by first | exact fun _ _ _ h => h | exact fun _ _ _ h => hQ2 _ _ _ _ _ h) ?_
    rotate_left
    · intro W hSW
      replace hSW : True := hSW
      simp only [getElem_toArray, getElem_cons_zero, getElem_cons_succ]
      (try dsimp only at hSW)
      go_simp
      with_reducible rfl
    (try simp only [getElem_toArray, getElem_cons_zero, getElem_cons_succ, Act.put, setIfInBounds_toArray, set_cons_zero, set_cons_succ])
    refine wpAnyK_take 1 (v := ?_) (by first | exact hF | exact wideFn) trivial rfl (by kernel_rfl) (by kernel_rfl) (by kernel_rfl) (by kernel_rfl) rfl ?_ (by first | exact fun _ _ _ h => h | exact fun _ _ _ h => hQ2 _ _ _ _ _ h) ?_
    rotate_left
    · intro W hSW
      replace hSW : True := hSW
      simp only [getElem_toArray, getElem_cons_zero, getElem_cons_succ]
      (try dsimp only at hSW)
      go_simp
      with_reducible rfl
    (try simp only [getElem_toArray, getElem_cons_zero, getElem_cons_succ, Act.put, setIfInBounds_toArray, set_cons_zero, set_cons_succ])
    refine wpAnyK_take 2 (v := ?_) (by first | exact hF | exact wideFn) trivial rfl (by kernel_rfl) (by kernel_rfl) (by kernel_rfl) (by kernel_rfl) rfl ?_ (by first | exact fun _ _ _ h => h | exact fun _ _ _ h => hQ2 _ _ _ _ _ h) ?_
    rotate_left
    · intro W hSW
      replace hSW : True := hSW
      simp only [getElem_toArray, getElem_cons_zero, getElem_cons_succ]
      (try dsimp only at hSW)
      go_simp
      with_reducible rfl
    (try simp only [getElem_toArray, getElem_cons_zero, getElem_cons_succ, Act.put, setIfInBounds_toArray, set_cons_zero, set_cons_succ])
    refine wpAnyK_take 3 (v := ?_) (by first | exact hF | exact wideFn) trivial rfl (by kernel_rfl) (by kernel_rfl) (by kernel_rfl) (by kernel_rfl) rfl ?_ (by first | exact fun _ _ _ h => h | exact fun _ _ _ h => hQ2 _ _ _ _ _ h) ?_
    rotate_left
    · intro W hSW
      replace hSW : True := hSW
      simp only [getElem_toArray, getElem_cons_zero, getElem_cons_succ]
      (try dsimp only at hSW)
      go_simp
      with_reducible rfl
    (try simp only [getElem_toArray, getElem_cons_zero, getElem_cons_succ, Act.put, setIfInBounds_toArray, set_cons_zero, set_cons_succ])
    refine wpAnyK_take 4 (v := ?_) (by first | exact hF | exact wideFn) (And.intro HS7.out trivial) rfl (by kernel_rfl) (by kernel_rfl) (by kernel_rfl) (by kernel_rfl) rfl ?_ (by first | exact fun _ _ _ h => h | exact fun _ _ _ h => hQ2 _ _ _ _ _ h) ?_
    rotate_left
    · intro W hSW
      replace hSW : ((W.cell? ⟨X, 2, none⟩ = some v2 ∧ W.cell? ⟨g, 3, none⟩ = some (.string new)) ∧ True) := hSW
      simp only [getElem_toArray, getElem_cons_zero, getElem_cons_succ]
      (try dsimp only at hSW)
      go_simp
      with_reducible rfl
    (try simp only [getElem_toArray, getElem_cons_zero, getElem_cons_succ, Act.put, setIfInBounds_toArray, set_cons_zero, set_cons_succ])
    refine wpAnyK_take 5 (v := ?_) (by first | exact hF | exact wideFn) trivial rfl (by kernel_rfl) (by kernel_rfl) (by kernel_rfl) (by kernel_rfl) rfl ?_ (by first | exact fun _ _ _ h => h | exact fun _ _ _ h => hQ2 _ _ _ _ _ h) ?_
    rotate_left
    · intro W hSW
      replace hSW : True := hSW
      simp only [getElem_toArray, getElem_cons_zero, getElem_cons_succ]
      (try dsimp only at hSW)
      go_simp
      with_reducible rfl
    (try simp only [getElem_toArray, getElem_cons_zero, getElem_cons_succ, Act.put, setIfInBounds_toArray, set_cons_zero, set_cons_succ])
    refine wpAnyK_take 6 (v := ?_) (by first | exact hF | exact wideFn) (And.intro HS7.out trivial) rfl (by kernel_rfl) (by kernel_rfl) (by kernel_rfl) (by kernel_rfl) rfl ?_ (by first | exact fun _ _ _ h => h | exact fun _ _ _ h => hQ2 _ _ _ _ _ h) ?_
    rotate_left
    · intro W hSW
      replace hSW : ((W.cell? ⟨X, 2, none⟩ = some v2 ∧ W.cell? ⟨g, 3, none⟩ = some (.string new)) ∧ True) := hSW
      simp only [getElem_toArray, getElem_cons_zero, getElem_cons_succ]
      (try dsimp only at hSW)
      go_simp
      with_reducible rfl
    (try simp only [getElem_toArray, getElem_cons_zero, getElem_cons_succ, Act.put, setIfInBounds_toArray, set_cons_zero, set_cons_succ])
    refine wpAnyK_one 7 rfl (by kernel_rfl) (fun K hK => ?_)
    simp only [getElem_toArray, getElem_cons_zero, getElem_cons_succ]
    go_simp
    refine hK.out _ _ (.inr (pickS_all HS8.out trivial)) ?_
    clear hK K
    (try simp only [getElem_toArray, getElem_cons_zero, getElem_cons_succ, Act.put, setIfInBounds_toArray, set_cons_zero, set_cons_succ])
    refine wpAnyK_one 8 rfl (by kernel_rfl) (fun K hK => ?_)
    rw [if_pos (by rfl)]
    refine wpIn_append_run (.tmp 55) (.tmp 58) 22 (by first | exact hF | exact wideFn) rfl rfl rfl HRUN.out ?_
    refine hK.out _ _ (.inr (pickS_all HS9.out trivial)) ?_
    clear hK K
    (try simp only [getElem_toArray, getElem_cons_zero, getElem_cons_succ, Act.put, setIfInBounds_toArray, set_cons_zero, set_cons_succ])
    refine wpAnyK_take 9 (v := ?_) (by first | exact hF | exact wideFn) trivial rfl (by kernel_rfl) (by kernel_rfl) (by kernel_rfl) (by kernel_rfl) rfl ?_ (by first | exact fun _ _ _ h => h | exact fun _ _ _ h => hQ2 _ _ _ _ _ h) ?_
    rotate_left
    · intro W hSW
      replace hSW : True := hSW
      simp only [getElem_toArray, getElem_cons_zero, getElem_cons_succ]
      (try dsimp only at hSW)
      go_simp
      with_reducible rfl
    (try simp only [getElem_toArray, getElem_cons_zero, getElem_cons_succ, Act.put, setIfInBounds_toArray, set_cons_zero, set_cons_succ])
    refine wpAnyK_take 10 (v := ?_) (by first | exact hF | exact wideFn) trivial rfl (by kernel_rfl) (by kernel_rfl) (by kernel_rfl) (by kernel_rfl) rfl ?_ (by first | exact fun _ _ _ h => h | exact fun _ _ _ h => hQ2 _ _ _ _ _ h) ?_
    rotate_left
    · intro W hSW
      replace hSW : True := hSW
      simp only [getElem_toArray, getElem_cons_zero, getElem_cons_succ]
      (try dsimp only at hSW)
      go_simp
      with_reducible rfl
    (try simp only [getElem_toArray, getElem_cons_zero, getElem_cons_succ, Act.put, setIfInBounds_toArray, set_cons_zero, set_cons_succ])
    have cX := HS9.out.1
    refine wpAnyK_one 11 rfl (by kernel_rfl) (fun K hK => ?_)
    simp only [getElem_toArray, getElem_cons_zero, getElem_cons_succ]
    go_simp
    refine hK.out _ _ (.inr (pickS_need (by kernel_rfl) trivial)) ?_
    clear hK K
    (try simp only [getElem_toArray, getElem_cons_zero, getElem_cons_succ, Act.put, setIfInBounds_toArray, set_cons_zero, set_cons_succ])
    refine wpAnyK_done (by kernel_rfl) ?_
    clear cX lX fX
    generalize (w3.setCell ⟨X, 2, none⟩ (.slice A3 n3 c3)) = w4 at HX3 HK3 E4 ⊢
    obtain ⟨g0, g1, -⟩ := blk4 E4.out
    go_wp2_with fail
    go_ret
    have hWe : Below W.heap.size W we := HB0.out.trans (HBE.out.mono HB0.out.size)
    have q1 := KX.both (v := v) (v2 := v) (v3 := v2) (KX.of_below X _ hWe) (.inl rfl) HK2.out.1 HK2.out.2
    have q2 : KX w2 w4 X v2.ownBlock := (KX.of_below X v2.ownBlock (Below.refl w2.heap.size w2).drew).trans HK3.out.1 (.inl rfl)
    have q3 := KX.both (v := v) (v2 := v2) (v3 := .slice A3 n3 c3) q1.1 q1.2 q2 HK3.out.2
    rw [hg] at q3
    exact ⟨_, rfl, HX3.out, q3.1, q3.2⟩
  · have k2 : ((t : Int) == (n : Int)) = false := by rw [beq_eq_false_iff_ne]; omega
    have k3 : (t == n) = false := by rw [beq_eq_false_iff_ne]; omega
    clear hta
    go_enter Tryd.func56, Tryd.ntmps56
    go_upto_region 1 with fail
    have HBD := hide ((Below.refl w1.heap.size w1).drew)
    refine wp_region_J (fun W : World => W.cell? ⟨X, 0, none⟩ = some (.slice A n c) ∧ W.cell? ⟨g, 0, none⟩ = some (.int .i64 3) ∧ W.cell? ⟨g, 1, none⟩ = some (.int .i64 (t : Nat)) ∧ W.cell? ⟨g, 2, none⟩ = some (.string old) ∧ W.cell? ⟨g, 3, none⟩ = some (.string new)) (by kernel_rfl) ?_
    generalize w1.drew = wd at HBD ⊢
    have hs1 := HS1.out _ HBD.out
    refine wpAnyJ_take 0 (v := ?_) (by first | exact hF | exact wideFn) (hs1) rfl (by kernel_rfl) (by kernel_rfl) (by kernel_rfl) (by kernel_rfl) rfl ?_ (by first | exact fun _ _ _ h => h | exact fun _ _ _ h => hQ2 _ _ _ _ _ h) ?_
    rotate_left
    · intro W hSW
      simp only [getElem_toArray, getElem_cons_zero, getElem_cons_succ]
      (try dsimp only at hSW)
      go_simp
      with_reducible rfl
    (try simp only [getElem_toArray, getElem_cons_zero, getElem_cons_succ, Act.put, setIfInBounds_toArray, set_cons_zero, set_cons_succ])
    refine wpAnyJ_take 1 (v := ?_) (by first | exact hF | exact wideFn) (hs1) rfl (by kernel_rfl) (by kernel_rfl) (by kernel_rfl) (by kernel_rfl) rfl ?_ (by first | exact fun _ _ _ h => h | exact fun _ _ _ h => hQ2 _ _ _ _ _ h) ?_
    rotate_left
    · intro W hSW
      simp only [getElem_toArray, getElem_cons_zero, getElem_cons_succ]
      (try dsimp only at hSW)
      go_simp
      with_reducible rfl
    (try simp only [getElem_toArray, getElem_cons_zero, getElem_cons_succ, Act.put, setIfInBounds_toArray, set_cons_zero, set_cons_succ])
    refine wpAnyJ_take 2 (v := ?_) (by first | exact hF | exact wideFn) (hs1) rfl (by kernel_rfl) (by kernel_rfl) (by kernel_rfl) (by kernel_rfl) rfl ?_ (by first | exact fun _ _ _ h => h | exact fun _ _ _ h => hQ2 _ _ _ _ _ h) ?_
    rotate_left
    · intro W hSW
      simp only [getElem_toArray, getElem_cons_zero, getElem_cons_succ]
      (try dsimp only at hSW)
      go_simp
      with_reducible rfl
    (try simp only [getElem_toArray, getElem_cons_zero, getElem_cons_succ, Act.put, setIfInBounds_toArray, set_cons_zero, set_cons_succ])
    refine wpAnyJ_take 3 (v := ?_) (by first | exact hF | exact wideFn) (hs1) rfl (by kernel_rfl) (by kernel_rfl) (by kernel_rfl) (by kernel_rfl) rfl ?_ (by first | exact fun _ _ _ h => h | exact fun _ _ _ h => hQ2 _ _ _ _ _ h) ?_
    rotate_left
    · intro W hSW
      simp only [getElem_toArray, getElem_cons_zero, getElem_cons_succ]
      (try dsimp only at hSW)
      go_simp
      with_reducible rfl
    (try simp only [getElem_toArray, getElem_cons_zero, getElem_cons_succ, Act.put, setIfInBounds_toArray, set_cons_zero, set_cons_succ])
    refine wpAnyJ_take 4 (v := ?_) (by first | exact hF | exact wideFn) (hs1) rfl (by kernel_rfl) (by kernel_rfl) (by kernel_rfl) (by kernel_rfl) rfl ?_ (by first | exact fun _ _ _ h => h | exact fun _ _ _ h => hQ2 _ _ _ _ _ h) ?_
    rotate_left
    · intro W hSW
      simp only [getElem_toArray, getElem_cons_zero, getElem_cons_succ]
      (try dsimp only at hSW)
      go_simp
      with_reducible rfl
    (try simp only [getElem_toArray, getElem_cons_zero, getElem_cons_succ, Act.put, setIfInBounds_toArray, set_cons_zero, set_cons_succ])
    refine wpAnyJ_take 5 (v := ?_) (by first | exact hF | exact wideFn) (hs1) rfl (by kernel_rfl) (by kernel_rfl) (by kernel_rfl) (by kernel_rfl) rfl ?_ (by first | exact fun _ _ _ h => h | exact fun _ _ _ h => hQ2 _ _ _ _ _ h) ?_
    rotate_left
    · intro W hSW
      simp only [getElem_toArray, getElem_cons_zero, getElem_cons_succ]
      (try dsimp only at hSW)
      go_simp
      with_reducible rfl
    (try simp only [getElem_toArray, getElem_cons_zero, getElem_cons_succ, Act.put, setIfInBounds_toArray, set_cons_zero, set_cons_succ])
    refine wpAnyJ_take 6 (v := ?_) (by first | exact hF | exact wideFn) (hs1) rfl (by kernel_rfl) (by kernel_rfl) (by kernel_rfl) (by kernel_rfl) rfl ?_ (by first | exact fun _ _ _ h => h | exact fun _ _ _ h => hQ2 _ _ _ _ _ h) ?_
    rotate_left
    · intro W hSW
      simp only [getElem_toArray, getElem_cons_zero, getElem_cons_succ]
      (try dsimp only at hSW)
      go_simp
      with_reducible rfl
    (try simp only [getElem_toArray, getElem_cons_zero, getElem_cons_succ, Act.put, setIfInBounds_toArray, set_cons_zero, set_cons_succ])
    refine wpAnyJ_take 7 (v := ?_) (by first | exact hF | exact wideFn) (hs1) rfl (by kernel_rfl) (by kernel_rfl) (by kernel_rfl) (by kernel_rfl) rfl ?_ (by first | exact fun _ _ _ h => h | exact fun _ _ _ h => hQ2 _ _ _ _ _ h) ?_
    rotate_left
    · intro W hSW
      simp only [getElem_toArray, getElem_cons_zero, getElem_cons_succ]
      (try dsimp only at hSW)
      go_simp
      with_reducible rfl
    (try simp only [getElem_toArray, getElem_cons_zero, getElem_cons_succ, Act.put, setIfInBounds_toArray, set_cons_zero, set_cons_succ])
    refine wpAnyJ_take 8 (v := ?_) (by first | exact hF | exact wideFn) (hs1) rfl (by kernel_rfl) (by kernel_rfl) (by kernel_rfl) (by kernel_rfl) rfl ?_ (by first | exact fun _ _ _ h => h | exact fun _ _ _ h => hQ2 _ _ _ _ _ h) ?_
    rotate_left
    · intro W hSW
      simp only [getElem_toArray, getElem_cons_zero, getElem_cons_succ]
      (try dsimp only at hSW)
      go_simp
      with_reducible rfl
    (try simp only [getElem_toArray, getElem_cons_zero, getElem_cons_succ, Act.put, setIfInBounds_toArray, set_cons_zero, set_cons_succ])
    refine wpAnyJ_take 9 (v := ?_) (by first | exact hF | exact wideFn) (hs1) rfl (by kernel_rfl) (by kernel_rfl) (by kernel_rfl) (by kernel_rfl) rfl ?_ (by first | exact fun _ _ _ h => h | exact fun _ _ _ h => hQ2 _ _ _ _ _ h) ?_
    rotate_left
    · intro W hSW
      simp only [getElem_toArray, getElem_cons_zero, getElem_cons_succ]
      (try dsimp only at hSW)
      go_simp
      with_reducible rfl
    (try simp only [getElem_toArray, getElem_cons_zero, getElem_cons_succ, Act.put, setIfInBounds_toArray, set_cons_zero, set_cons_succ])
    refine wpAnyJ_take 10 (v := ?_) (by first | exact hF | exact wideFn) (hs1) rfl (by kernel_rfl) (by kernel_rfl) (by kernel_rfl) (by kernel_rfl) rfl ?_ (by first | exact fun _ _ _ h => h | exact fun _ _ _ h => hQ2 _ _ _ _ _ h) ?_
    rotate_left
    · intro W hSW
      simp only [getElem_toArray, getElem_cons_zero, getElem_cons_succ]
      (try dsimp only at hSW)
      go_simp
      with_reducible rfl
    (try simp only [getElem_toArray, getElem_cons_zero, getElem_cons_succ, Act.put, setIfInBounds_toArray, set_cons_zero, set_cons_succ])
    refine wpAnyJ_take 11 (v := ?_) (by first | exact hF | exact wideFn) (hs1) rfl (by kernel_rfl) (by kernel_rfl) (by kernel_rfl) (by kernel_rfl) rfl ?_ (by first | exact fun _ _ _ h => h | exact fun _ _ _ h => hQ2 _ _ _ _ _ h) ?_
    rotate_left
    · intro W hSW
      simp only [getElem_toArray, getElem_cons_zero, getElem_cons_succ]
      (try dsimp only at hSW)
      go_simp
      with_reducible rfl
    (try simp only [getElem_toArray, getElem_cons_zero, getElem_cons_succ, Act.put, setIfInBounds_toArray, set_cons_zero, set_cons_succ])
    refine wpAnyJ_take 12 (v := ?_) (by first | exact hF | exact wideFn) (hs1) rfl (by kernel_rfl) (by kernel_rfl) (by kernel_rfl) (by kernel_rfl) rfl ?_ (by first | exact fun _ _ _ h => h | exact fun _ _ _ h => hQ2 _ _ _ _ _ h) ?_
    rotate_left
    · intro W hSW
      simp only [getElem_toArray, getElem_cons_zero, getElem_cons_succ]
      (try dsimp only at hSW)
      go_simp
      with_reducible rfl
    (try simp only [getElem_toArray, getElem_cons_zero, getElem_cons_succ, Act.put, setIfInBounds_toArray, set_cons_zero, set_cons_succ])
    refine wpAnyJ_take 13 (v := ?_) (by first | exact hF | exact wideFn) (hs1) rfl (by kernel_rfl) (by kernel_rfl) (by kernel_rfl) (by kernel_rfl) rfl ?_ (by first | exact fun _ _ _ h => h | exact fun _ _ _ h => hQ2 _ _ _ _ _ h) ?_
    rotate_left
    · intro W hSW
      simp only [getElem_toArray, getElem_cons_zero, getElem_cons_succ]
      (try dsimp only at hSW)
      go_simp
      with_reducible rfl
    (try simp only [getElem_toArray, getElem_cons_zero, getElem_cons_succ, Act.put, setIfInBounds_toArray, set_cons_zero, set_cons_succ])
    refine wpAnyJ_take 14 (v := ?_) (by first | exact hF | exact wideFn) (hs1) rfl (by kernel_rfl) (by kernel_rfl) (by kernel_rfl) (by kernel_rfl) rfl ?_ (by first | exact fun _ _ _ h => h | exact fun _ _ _ h => hQ2 _ _ _ _ _ h) ?_
    rotate_left
    · intro W hSW
      simp only [getElem_toArray, getElem_cons_zero, getElem_cons_succ]
      (try dsimp only at hSW)
      go_simp
      with_reducible rfl
    (try simp only [getElem_toArray, getElem_cons_zero, getElem_cons_succ, Act.put, setIfInBounds_toArray, set_cons_zero, set_cons_succ])
    refine wpAnyJ_take 15 (v := ?_) (by first | exact hF | exact wideFn) (hs1) rfl (by kernel_rfl) (by kernel_rfl) (by kernel_rfl) (by kernel_rfl) rfl ?_ (by first | exact fun _ _ _ h => h | exact fun _ _ _ h => hQ2 _ _ _ _ _ h) ?_
    rotate_left
    · intro W hSW
      simp only [getElem_toArray, getElem_cons_zero, getElem_cons_succ]
      (try dsimp only at hSW)
      go_simp
      with_reducible rfl
    (try simp only [getElem_toArray, getElem_cons_zero, getElem_cons_succ, Act.put, setIfInBounds_toArray, set_cons_zero, set_cons_succ])
    refine wpAnyJ_take 16 (v := ?_) (by first | exact hF | exact wideFn) (hs1) rfl (by kernel_rfl) (by kernel_rfl) (by kernel_rfl) (by kernel_rfl) rfl ?_ (by first | exact fun _ _ _ h => h | exact fun _ _ _ h => hQ2 _ _ _ _ _ h) ?_
    rotate_left
    · intro W hSW
      simp only [getElem_toArray, getElem_cons_zero, getElem_cons_succ]
      (try dsimp only at hSW)
      go_simp
      with_reducible rfl
    (try simp only [getElem_toArray, getElem_cons_zero, getElem_cons_succ, Act.put, setIfInBounds_toArray, set_cons_zero, set_cons_succ])
    refine wpAnyJ_take 17 (v := ?_) (by first | exact hF | exact wideFn) (hs1) rfl (by kernel_rfl) (by kernel_rfl) (by kernel_rfl) (by kernel_rfl) rfl ?_ (by first | exact fun _ _ _ h => h | exact fun _ _ _ h => hQ2 _ _ _ _ _ h) ?_
    rotate_left
    · intro W hSW
      simp only [getElem_toArray, getElem_cons_zero, getElem_cons_succ]
      (try dsimp only at hSW)
      go_simp
      with_reducible rfl
    (try simp only [getElem_toArray, getElem_cons_zero, getElem_cons_succ, Act.put, setIfInBounds_toArray, set_cons_zero, set_cons_succ])
    refine wpAnyJ_skip 18 (by first | exact hF | exact wideFn) (hs1) rfl (by kernel_rfl) (by kernel_rfl) (by kernel_rfl) (by kernel_rfl) rfl (by first | exact fun _ _ _ h => h | exact fun _ _ _ h => hQ2 _ _ _ _ _ h) ?_
    (try simp only [getElem_toArray, getElem_cons_zero, getElem_cons_succ, Act.put, setIfInBounds_toArray, set_cons_zero, set_cons_succ])
    refine wpAnyJ_skip 19 (by first | exact hF | exact wideFn) (hs1) rfl (by kernel_rfl) (by kernel_rfl) (by kernel_rfl) (by kernel_rfl) rfl (by first | exact fun _ _ _ h => h | exact fun _ _ _ h => hQ2 _ _ _ _ _ h) ?_
    (try simp only [getElem_toArray, getElem_cons_zero, getElem_cons_succ, Act.put, setIfInBounds_toArray, set_cons_zero, set_cons_succ])
    refine wpAnyJ_skip 20 (by first | exact hF | exact wideFn) (hs1) rfl (by kernel_rfl) (by kernel_rfl) (by kernel_rfl) (by kernel_rfl) rfl (by first | exact fun _ _ _ h => h | exact fun _ _ _ h => hQ2 _ _ _ _ _ h) ?_
    (try simp only [getElem_toArray, getElem_cons_zero, getElem_cons_succ, Act.put, setIfInBounds_toArray, set_cons_zero, set_cons_succ])
    refine wpAnyJ_take 21 (v := ?_) (by first | exact hF | exact wideFn) (hs1) rfl (by kernel_rfl) (by kernel_rfl) (by kernel_rfl) (by kernel_rfl) rfl ?_ (by first | exact fun _ _ _ h => h | exact fun _ _ _ h => hQ2 _ _ _ _ _ h) ?_
    rotate_left
    · intro W hSW
      simp only [getElem_toArray, getElem_cons_zero, getElem_cons_succ]
      (try dsimp only at hSW)
      go_simp
      with_reducible rfl
    (try simp only [getElem_toArray, getElem_cons_zero, getElem_cons_succ, Act.put, setIfInBounds_toArray, set_cons_zero, set_cons_succ])
    refine wpAnyJ_take 22 (v := ?_) (by first | exact hF | exact wideFn) (hs1) rfl (by kernel_rfl) (by kernel_rfl) (by kernel_rfl) (by kernel_rfl) rfl ?_ (by first | exact fun _ _ _ h => h | exact fun _ _ _ h => hQ2 _ _ _ _ _ h) ?_
    rotate_left
    · intro W hSW
      simp only [getElem_toArray, getElem_cons_zero, getElem_cons_succ]
      (try dsimp only at hSW)
      go_simp
      with_reducible rfl
    (try simp only [getElem_toArray, getElem_cons_zero, getElem_cons_succ, Act.put, setIfInBounds_toArray, set_cons_zero, set_cons_succ])
    refine wpAnyJ_done (by kernel_rfl) ?_
    go_upto_region 3 with fail
    have HBE := hide (HBD.out.trans ((Below.refl wd.heap.size wd).drew.mono HBD.out.size))
    refine wp_region_J (fun W : World => W.cell? ⟨X, 0, none⟩ = some (.slice A n c) ∧ W.cell? ⟨g, 0, none⟩ = some (.int .i64 3) ∧ W.cell? ⟨g, 1, none⟩ = some (.int .i64 (t : Nat)) ∧ W.cell? ⟨g, 2, none⟩ = some (.string old) ∧ W.cell? ⟨g, 3, none⟩ = some (.string new)) (by kernel_rfl) ?_
    generalize wd.drew = we at HBE ⊢
    have hs3 := HS1.out _ HBE.out
    refine wpAnyJ_take 0 (v := ?_) (by first | exact hF | exact wideFn) (hs3) rfl (by kernel_rfl) (by kernel_rfl) (by kernel_rfl) (by kernel_rfl) rfl ?_ (by first | exact fun _ _ _ h => h | exact fun _ _ _ h => hQ2 _ _ _ _ _ h) ?_
    rotate_left
    · intro W hSW
      simp only [getElem_toArray, getElem_cons_zero, getElem_cons_succ]
      (try dsimp only at hSW)
      go_simp
      with_reducible rfl
    (try simp only [getElem_toArray, getElem_cons_zero, getElem_cons_succ, Act.put, setIfInBounds_toArray, set_cons_zero, set_cons_succ])
    refine wpAnyJ_take 1 (v := ?_) (by first | exact hF | exact wideFn) (hs3) rfl (by kernel_rfl) (by kernel_rfl) (by kernel_rfl) (by kernel_rfl) rfl ?_ (by first | exact fun _ _ _ h => h | exact fun _ _ _ h => hQ2 _ _ _ _ _ h) ?_
    rotate_left
    · intro W hSW
      simp only [getElem_toArray, getElem_cons_zero, getElem_cons_succ]
      (try dsimp only at hSW)
      go_simp
      with_reducible rfl
    (try simp only [getElem_toArray, getElem_cons_zero, getElem_cons_succ, Act.put, setIfInBounds_toArray, set_cons_zero, set_cons_succ])
    refine wpAnyJ_take 2 (v := ?_) (by first | exact hF | exact wideFn) (hs3) rfl (by kernel_rfl) (by kernel_rfl) (by kernel_rfl) (by kernel_rfl) rfl ?_ (by first | exact fun _ _ _ h => h | exact fun _ _ _ h => hQ2 _ _ _ _ _ h) ?_
    rotate_left
    · intro W hSW
      simp only [getElem_toArray, getElem_cons_zero, getElem_cons_succ]
      (try dsimp only at hSW)
      go_simp
      with_reducible rfl
    (try simp only [getElem_toArray, getElem_cons_zero, getElem_cons_succ, Act.put, setIfInBounds_toArray, set_cons_zero, set_cons_succ])
    refine wpAnyJ_take 3 (v := ?_) (by first | exact hF | exact wideFn) (hs3) rfl (by kernel_rfl) (by kernel_rfl) (by kernel_rfl) (by kernel_rfl) rfl ?_ (by first | exact fun _ _ _ h => h | exact fun _ _ _ h => hQ2 _ _ _ _ _ h) ?_
    rotate_left
    · intro W hSW
      simp only [getElem_toArray, getElem_cons_zero, getElem_cons_succ]
      (try dsimp only at hSW)
      go_simp
      with_reducible rfl
    (try simp only [getElem_toArray, getElem_cons_zero, getElem_cons_succ, Act.put, setIfInBounds_toArray, set_cons_zero, set_cons_succ])
    refine wpAnyJ_skip 4 (by first | exact hF | exact wideFn) (hs3) rfl (by kernel_rfl) (by kernel_rfl) (by kernel_rfl) (by kernel_rfl) rfl (by first | exact fun _ _ _ h => h | exact fun _ _ _ h => hQ2 _ _ _ _ _ h) ?_
    (try simp only [getElem_toArray, getElem_cons_zero, getElem_cons_succ, Act.put, setIfInBounds_toArray, set_cons_zero, set_cons_succ])
    refine wpAnyJ_skip 5 (by first | exact hF | exact wideFn) (hs3) rfl (by kernel_rfl) (by kernel_rfl) (by kernel_rfl) (by kernel_rfl) rfl (by first | exact fun _ _ _ h => h | exact fun _ _ _ h => hQ2 _ _ _ _ _ h) ?_
    (try simp only [getElem_toArray, getElem_cons_zero, getElem_cons_succ, Act.put, setIfInBounds_toArray, set_cons_zero, set_cons_succ])
    refine wpAnyJ_skip 6 (by first | exact hF | exact wideFn) (hs3) rfl (by kernel_rfl) (by kernel_rfl) (by kernel_rfl) (by kernel_rfl) rfl (by first | exact fun _ _ _ h => h | exact fun _ _ _ h => hQ2 _ _ _ _ _ h) ?_
    (try simp only [getElem_toArray, getElem_cons_zero, getElem_cons_succ, Act.put, setIfInBounds_toArray, set_cons_zero, set_cons_succ])
    refine wpAnyJ_skip 7 (by first | exact hF | exact wideFn) (hs3) rfl (by kernel_rfl) (by kernel_rfl) (by kernel_rfl) (by kernel_rfl) rfl (by first | exact fun _ _ _ h => h | exact fun _ _ _ h => hQ2 _ _ _ _ _ h) ?_
    (try simp only [getElem_toArray, getElem_cons_zero, getElem_cons_succ, Act.put, setIfInBounds_toArray, set_cons_zero, set_cons_succ])
    refine wpAnyJ_skip 8 (by first | exact hF | exact wideFn) (hs3) rfl (by kernel_rfl) (by kernel_rfl) (by kernel_rfl) (by kernel_rfl) rfl (by first | exact fun _ _ _ h => h | exact fun _ _ _ h => hQ2 _ _ _ _ _ h) ?_
    (try simp only [getElem_toArray, getElem_cons_zero, getElem_cons_succ, Act.put, setIfInBounds_toArray, set_cons_zero, set_cons_succ])
    refine wpAnyJ_skip 9 (by first | exact hF | exact wideFn) (hs3) rfl (by kernel_rfl) (by kernel_rfl) (by kernel_rfl) (by kernel_rfl) rfl (by first | exact fun _ _ _ h => h | exact fun _ _ _ h => hQ2 _ _ _ _ _ h) ?_
    (try simp only [getElem_toArray, getElem_cons_zero, getElem_cons_succ, Act.put, setIfInBounds_toArray, set_cons_zero, set_cons_succ])
    refine wpAnyJ_skip 10 (by first | exact hF | exact wideFn) (hs3) rfl (by kernel_rfl) (by kernel_rfl) (by kernel_rfl) (by kernel_rfl) rfl (by first | exact fun _ _ _ h => h | exact fun _ _ _ h => hQ2 _ _ _ _ _ h) ?_
    (try simp only [getElem_toArray, getElem_cons_zero, getElem_cons_succ, Act.put, setIfInBounds_toArray, set_cons_zero, set_cons_succ])
    refine wpAnyJ_skip 11 (by first | exact hF | exact wideFn) (hs3) rfl (by kernel_rfl) (by kernel_rfl) (by kernel_rfl) (by kernel_rfl) rfl (by first | exact fun _ _ _ h => h | exact fun _ _ _ h => hQ2 _ _ _ _ _ h) ?_
    (try simp only [getElem_toArray, getElem_cons_zero, getElem_cons_succ, Act.put, setIfInBounds_toArray, set_cons_zero, set_cons_succ])
    refine wpAnyJ_skip 12 (by first | exact hF | exact wideFn) (hs3) rfl (by kernel_rfl) (by kernel_rfl) (by kernel_rfl) (by kernel_rfl) rfl (by first | exact fun _ _ _ h => h | exact fun _ _ _ h => hQ2 _ _ _ _ _ h) ?_
    (try simp only [getElem_toArray, getElem_cons_zero, getElem_cons_succ, Act.put, setIfInBounds_toArray, set_cons_zero, set_cons_succ])
    refine wpAnyJ_skip 13 (by first | exact hF | exact wideFn) (hs3) rfl (by kernel_rfl) (by kernel_rfl) (by kernel_rfl) (by kernel_rfl) rfl (by first | exact fun _ _ _ h => h | exact fun _ _ _ h => hQ2 _ _ _ _ _ h) ?_
    (try simp only [getElem_toArray, getElem_cons_zero, getElem_cons_succ, Act.put, setIfInBounds_toArray, set_cons_zero, set_cons_succ])
    refine wpAnyJ_skip 14 (by first | exact hF | exact wideFn) (hs3) rfl (by kernel_rfl) (by kernel_rfl) (by kernel_rfl) (by kernel_rfl) rfl (by first | exact fun _ _ _ h => h | exact fun _ _ _ h => hQ2 _ _ _ _ _ h) ?_
    (try simp only [getElem_toArray, getElem_cons_zero, getElem_cons_succ, Act.put, setIfInBounds_toArray, set_cons_zero, set_cons_succ])
    refine wpAnyJ_take 15 (v := ?_) (by first | exact hF | exact wideFn) (hs3) rfl (by kernel_rfl) (by kernel_rfl) (by kernel_rfl) (by kernel_rfl) rfl ?_ (by first | exact fun _ _ _ h => h | exact fun _ _ _ h => hQ2 _ _ _ _ _ h) ?_
    rotate_left
    · intro W hSW
      simp only [getElem_toArray, getElem_cons_zero, getElem_cons_succ]
      (try dsimp only at hSW)
      go_simp
      with_reducible rfl
    (try simp only [getElem_toArray, getElem_cons_zero, getElem_cons_succ, Act.put, setIfInBounds_toArray, set_cons_zero, set_cons_succ])
    refine wpAnyJ_done (by kernel_rfl) ?_
    have hs5 := hs3.2.2.1
    go_wp2_with fail
    refine (HT.out _ HBE.out).mono ?_
    rintro e w2 ⟨v2, rfl, hX2, hK2, hr2⟩
    have HX2 := hide hX2
    have E2 := hide ((HE1.out.ext HBE.out).kx hK2 HGX.out (fun e => by have := HOWN.out g e.symm; omega))
    have HNE : Hid (some g ≠ v2.ownBlock) := hide (fun e => by
      rcases hr2 with h | h
      · rw [h] at e
        have := HOWN.out g e.symm
        omega
      · have := h g e.symm
        have := HBE.out.size
        omega)
    have HK2 := hide (And.intro hK2 hr2)
    clear hX2 hK2 hr2 hs1 hs3 hs5
    obtain ⟨g0', g0, -⟩ := blk4 E2.out
    obtain ⟨A3, n3, c3, w3, hrun, hb3, hg3, hX3, hK3, hr3⟩ := (HX2.out.ext (Below.refl w2.heap.size w2).drew).push new (by have := HL2.out; omega)
    try dsimp only at hrun
    have E3 := ((E2.out.ext (Below.refl w2.heap.size w2).drew).alloc (.cells #[.string new] 9)).grown hg3 (fun e => HNE.out e)
    have HS7 : Hid (w2.drew.cell? ⟨X, 2, none⟩ = some v2 ∧ w2.drew.cell? ⟨g, 3, none⟩ = some (.string new)) := hide ⟨(blk3 (HX2.out.blk.drew)).2.2.2.1, (blk4 (E2.out.drew)).2.2.2.2⟩
    have HS8 : Hid ((w2.drew.alloc (.cells #[.string new] 9)).cell? ⟨X, 2, none⟩ = some v2 ∧ (w2.drew.alloc (.cells #[.string new] 9)).cell? ⟨g, 3, none⟩ = some (.string new)) := hide ⟨(blk3 (HX2.out.blk.drew.alloc _)).2.2.2.1, (blk4 (E2.out.drew.alloc _)).2.2.2.2⟩
    have HS9 : Hid (w3.cell? ⟨X, 2, none⟩ = some v2 ∧ w3.cell? ⟨g, 3, none⟩ = some (.string new)) := hide ⟨(blk3 hb3).2.2.2.1, (blk4 E3).2.2.2.2⟩
    have HRUN := hide hrun
    have HX3 := hide hX3
    have HK3 := hide (And.intro hK3 hr3)
    have lX := hb3.lt
    have fX := hb3.frozen 2
    have hgX : g ≠ X := HGX.out
    have E4 := hide (E3.far (p := ⟨X, 2, none⟩) hgX (.slice A3 n3 c3))
    clear hrun hX3 hK3 hr3 E3 hg3 hb3
    go_upto_region 7 with fail
    refine wp_region_K (pickS [4, 6] (fun W : World => W.cell? ⟨X, 2, none⟩ = some v2 ∧ W.cell? ⟨g, 3, none⟩ = some (.string new)) (fun _ => True)) (by kernel_rfl) ?_
    refine wpAnyK_take 0 (v := ?_) (by first | exact hF | exact wideFn) trivial rfl (by kernel_rfl) (by kernel_rfl) (by kernel_rfl) (by kernel_rfl) rfl ?_ (by first | exact fun _ _ _ h => h | exact fun _ _ _ h => hQ2 _ _ _ _ _ h) ?_
    rotate_left
    · intro W hSW
      replace hSW : True := hSW
      simp only [getElem_toArray, getElem_cons_zero, getElem_cons_succ]
      (try dsimp only at hSW)
      go_simp
      with_reducible rfl
    (try simp only [getElem_toArray, getElem_cons_zero, getElem_cons_succ, Act.put, setIfInBounds_toArray, set_cons_zero, set_cons_succ])
    refine wpAnyK_take 1 (v := ?_) (by first | exact hF | exact wideFn) trivial rfl (by kernel_rfl) (by kernel_rfl) (by kernel_rfl) (by kernel_rfl) rfl ?_ (by first | exact fun _ _ _ h => h | exact fun _ _ _ h => hQ2 _ _ _ _ _ h) ?_
    rotate_left
    · intro W hSW
      replace hSW : True := hSW
      simp only [getElem_toArray, getElem_cons_zero, getElem_cons_succ]
      (try dsimp only at hSW)
      go_simp
      with_reducible rfl
    (try simp only [getElem_toArray, getElem_cons_zero, getElem_cons_succ, Act.put, setIfInBounds_toArray, set_cons_zero, set_cons_succ])
    refine wpAnyK_take 2 (v := ?_) (by first | exact hF | exact wideFn) trivial rfl (by kernel_rfl) (by kernel_rfl) (by kernel_rfl) (by kernel_rfl) rfl ?_ (by first | exact fun _ _ _ h => h | exact fun _ _ _ h => hQ2 _ _ _ _ _ h) ?_
    rotate_left
    · intro W hSW
      replace hSW : True := hSW
      simp only [getElem_toArray, getElem_cons_zero, getElem_cons_succ]
      (try dsimp only at hSW)
      go_simp
      with_reducible rfl
    (try simp only [getElem_toArray, getElem_cons_zero, getElem_cons_succ, Act.put, setIfInBounds_toArray, set_cons_zero, set_cons_succ])
    refine wpAnyK_take 3 (v := ?_) (by first | exact hF | exact wideFn) trivial rfl (by kernel_rfl) (by kernel_rfl) (by kernel_rfl) (by kernel_rfl) rfl ?_ (by first | exact fun _ _ _ h => h | exact fun _ _ _ h => hQ2 _ _ _ _ _ h) ?_
    rotate_left
    · intro W hSW
      replace hSW : True := hSW
      simp only [getElem_toArray, getElem_cons_zero, getElem_cons_succ]
      (try dsimp only at hSW)
      go_simp
      with_reducible rfl
    (try simp only [getElem_toArray, getElem_cons_zero, getElem_cons_succ, Act.put, setIfInBounds_toArray, set_cons_zero, set_cons_succ])
    refine wpAnyK_take 4 (v := ?_) (by first | exact hF | exact wideFn) (And.intro HS7.out trivial) rfl (by kernel_rfl) (by kernel_rfl) (by kernel_rfl) (by kernel_rfl) rfl ?_ (by first | exact fun _ _ _ h => h | exact fun _ _ _ h => hQ2 _ _ _ _ _ h) ?_
    rotate_left
    · intro W hSW
      replace hSW : ((W.cell? ⟨X, 2, none⟩ = some v2 ∧ W.cell? ⟨g, 3, none⟩ = some (.string new)) ∧ True) := hSW
      simp only [getElem_toArray, getElem_cons_zero, getElem_cons_succ]
      (try dsimp only at hSW)
      go_simp
      with_reducible rfl
    (try simp only [getElem_toArray, getElem_cons_zero, getElem_cons_succ, Act.put, setIfInBounds_toArray, set_cons_zero, set_cons_succ])
    refine wpAnyK_take 5 (v := ?_) (by first | exact hF | exact wideFn) trivial rfl (by kernel_rfl) (by kernel_rfl) (by kernel_rfl) (by kernel_rfl) rfl ?_ (by first | exact fun _ _ _ h => h | exact fun _ _ _ h => hQ2 _ _ _ _ _ h) ?_
    rotate_left
    · intro W hSW
      replace hSW : True := hSW
      simp only [getElem_toArray, getElem_cons_zero, getElem_cons_succ]
      (try dsimp only at hSW)
      go_simp
      with_reducible rfl
    (try simp only [getElem_toArray, getElem_cons_zero, getElem_cons_succ, Act.put, setIfInBounds_toArray, set_cons_zero, set_cons_succ])
    refine wpAnyK_take 6 (v := ?_) (by first | exact hF | exact wideFn) (And.intro HS7.out trivial) rfl (by kernel_rfl) (by kernel_rfl) (by kernel_rfl) (by kernel_rfl) rfl ?_ (by first | exact fun _ _ _ h => h | exact fun _ _ _ h => hQ2 _ _ _ _ _ h) ?_
    rotate_left
    · intro W hSW
      replace hSW : ((W.cell? ⟨X, 2, none⟩ = some v2 ∧ W.cell? ⟨g, 3, none⟩ = some (.string new)) ∧ True) := hSW
      simp only [getElem_toArray, getElem_cons_zero, getElem_cons_succ]
      (try dsimp only at hSW)
      go_simp
      with_reducible rfl
    (try simp only [getElem_toArray, getElem_cons_zero, getElem_cons_succ, Act.put, setIfInBounds_toArray, set_cons_zero, set_cons_succ])
    refine wpAnyK_one 7 rfl (by kernel_rfl) (fun K hK => ?_)
    simp only [getElem_toArray, getElem_cons_zero, getElem_cons_succ]
    go_simp
    refine hK.out _ _ (.inr (pickS_all HS8.out trivial)) ?_
    clear hK K
    (try simp only [getElem_toArray, getElem_cons_zero, getElem_cons_succ, Act.put, setIfInBounds_toArray, set_cons_zero, set_cons_succ])
    refine wpAnyK_one 8 rfl (by kernel_rfl) (fun K hK => ?_)
    rw [if_pos (by rfl)]
    refine wpIn_append_run (.tmp 55) (.tmp 58) 22 (by first | exact hF | exact wideFn) rfl rfl rfl HRUN.out ?_
    refine hK.out _ _ (.inr (pickS_all HS9.out trivial)) ?_
    clear hK K
    (try simp only [getElem_toArray, getElem_cons_zero, getElem_cons_succ, Act.put, setIfInBounds_toArray, set_cons_zero, set_cons_succ])
    refine wpAnyK_take 9 (v := ?_) (by first | exact hF | exact wideFn) trivial rfl (by kernel_rfl) (by kernel_rfl) (by kernel_rfl) (by kernel_rfl) rfl ?_ (by first | exact fun _ _ _ h => h | exact fun _ _ _ h => hQ2 _ _ _ _ _ h) ?_
    rotate_left
    · intro W hSW
      replace hSW : True := hSW
      simp only [getElem_toArray, getElem_cons_zero, getElem_cons_succ]
      (try dsimp only at hSW)
      go_simp
      with_reducible rfl
    (try simp only [getElem_toArray, getElem_cons_zero, getElem_cons_succ, Act.put, setIfInBounds_toArray, set_cons_zero, set_cons_succ])
    refine wpAnyK_take 10 (v := ?_) (by first | exact hF | exact wideFn) trivial rfl (by kernel_rfl) (by kernel_rfl) (by kernel_rfl) (by kernel_rfl) rfl ?_ (by first | exact fun _ _ _ h => h | exact fun _ _ _ h => hQ2 _ _ _ _ _ h) ?_
    rotate_left
    · intro W hSW
      replace hSW : True := hSW
      simp only [getElem_toArray, getElem_cons_zero, getElem_cons_succ]
      (try dsimp only at hSW)
      go_simp
      with_reducible rfl
    (try simp only [getElem_toArray, getElem_cons_zero, getElem_cons_succ, Act.put, setIfInBounds_toArray, set_cons_zero, set_cons_succ])
    have cX := HS9.out.1
    refine wpAnyK_one 11 rfl (by kernel_rfl) (fun K hK => ?_)
    simp only [getElem_toArray, getElem_cons_zero, getElem_cons_succ]
    go_simp
    refine hK.out _ _ (.inr (pickS_need (by kernel_rfl) trivial)) ?_
    clear hK K
    (try simp only [getElem_toArray, getElem_cons_zero, getElem_cons_succ, Act.put, setIfInBounds_toArray, set_cons_zero, set_cons_succ])
    refine wpAnyK_done (by kernel_rfl) ?_
    clear cX lX fX
    generalize (w3.setCell ⟨X, 2, none⟩ (.slice A3 n3 c3)) = w4 at HX3 HK3 E4 ⊢
    obtain ⟨g0, g1, -⟩ := blk4 E4.out
    go_wp2_with fail
    go_ret
    have hWe : Below W.heap.size W we := HB0.out.trans (HBE.out.mono HB0.out.size)
    have q1 := KX.both (v := v) (v2 := v) (v3 := v2) (KX.of_below X _ hWe) (.inl rfl) HK2.out.1 HK2.out.2
    have q2 : KX w2 w4 X v2.ownBlock := (KX.of_below X v2.ownBlock (Below.refl w2.heap.size w2).drew).trans HK3.out.1 (.inl rfl)
    have q3 := KX.both (v := v) (v2 := v2) (v3 := .slice A3 n3 c3) q1.1 q1.2 q2 HK3.out.2
    rw [hg] at q3
    exact ⟨_, rfl, HX3.out, q3.1, q3.2⟩
end Go.Proofs.YtmpegkojencbjaaDoor
