/- Contracts of chapter 8 on the book: laying, breaking, replacing. -/
import Derived.Test.YtlhekifmkkgjlaaKl
import Derived.Test.YtlhekifmkkgjlaaRound
set_option linter.unusedSimpArgs false
set_option linter.unusedVariables false
set_option linter.unnecessarySimpa false
namespace Go.Proofs.Ytlhekifmkkgjlaa
open Go Go.RowKit
set_option maxHeartbeats 1000000
theorem lay1_state (a b c d e f g n : Int) (S o p : Nat) (w : World) (hk : Kind7 w S o a b c d e f g) (ho : Ok7 a b c d e f g) (hp : w.cell? ⟨p, 0, none⟩ = some (.int .i64 n)) (hpl : p < w.heap.size) (hpS : p ≠ S) (hn : 0 ≤ n) (hn2 : n ≤ 1000000000) (hlt : d < n) : Calls Try.prog 87 #[.pointer (some ⟨S, o, none⟩), .pointer (some ⟨p, 0, none⟩)] w fun en w' => en = .returned (.int .i64 9) ∧ Below w.heap.size w w' := by
  obtain ⟨h0, hf, h1, h2, h3, h4, h5, h6, h7⟩ := hk
  obtain ⟨o1, o2, o3, o4, o5, o6, o7, o8, o9⟩ := ho
  have HM := hide (move_lt n d S (o + 3) S (o + 4) w.drew h4 hlt)
  have HP : Hid (w.drew.cell? ⟨p, 0, none⟩ = some (.int .i64 n)) := hide hp
  clear hf h1 h2 h3 h4 h5 h6 h7 hp
  go_enter Try.func87, Try.ntmps87
  go_wp2_with fail
  refine wp_region_J (fun W : World => W.cell? ⟨p, 0, none⟩ = some (.int .i64 n)) (by kernel_rfl) ?_
  refine wpAnyJ_take 0 (v := ?_) (by first | exact hF | exact wideFn) HP.out rfl (by kernel_rfl) (by kernel_rfl) (by kernel_rfl) (by kernel_rfl) rfl ?_ (fun _ _ _ h => h) ?_
  rotate_left
  · intro W hSW
    simp only [List.getElem_toArray, List.getElem_cons_zero, List.getElem_cons_succ]
    (try dsimp only at hSW)
    go_simp
    with_reducible rfl
  (try simp only [List.getElem_toArray, List.getElem_cons_zero, List.getElem_cons_succ, Act.put, List.setIfInBounds_toArray, List.set_cons_zero, List.set_cons_succ])
  refine wpAnyJ_take 1 (v := ?_) (by first | exact hF | exact wideFn) HP.out rfl (by kernel_rfl) (by kernel_rfl) (by kernel_rfl) (by kernel_rfl) rfl ?_ (fun _ _ _ h => h) ?_
  rotate_left
  · intro W hSW
    simp only [List.getElem_toArray, List.getElem_cons_zero, List.getElem_cons_succ]
    (try dsimp only at hSW)
    go_simp
    with_reducible rfl
  (try simp only [List.getElem_toArray, List.getElem_cons_zero, List.getElem_cons_succ, Act.put, List.setIfInBounds_toArray, List.set_cons_zero, List.set_cons_succ])
  refine wpAnyJ_take 2 (v := ?_) (by first | exact hF | exact wideFn) HP.out rfl (by kernel_rfl) (by kernel_rfl) (by kernel_rfl) (by kernel_rfl) rfl ?_ (fun _ _ _ h => h) ?_
  rotate_left
  · intro W hSW
    simp only [List.getElem_toArray, List.getElem_cons_zero, List.getElem_cons_succ]
    (try dsimp only at hSW)
    go_simp
    with_reducible rfl
  (try simp only [List.getElem_toArray, List.getElem_cons_zero, List.getElem_cons_succ, Act.put, List.setIfInBounds_toArray, List.set_cons_zero, List.set_cons_succ])
  refine wpAnyJ_take 3 (v := ?_) (by first | exact hF | exact wideFn) HP.out rfl (by kernel_rfl) (by kernel_rfl) (by kernel_rfl) (by kernel_rfl) rfl ?_ (fun _ _ _ h => h) ?_
  rotate_left
  · intro W hSW
    simp only [List.getElem_toArray, List.getElem_cons_zero, List.getElem_cons_succ]
    (try dsimp only at hSW)
    go_simp
    with_reducible rfl
  (try simp only [List.getElem_toArray, List.getElem_cons_zero, List.getElem_cons_succ, Act.put, List.setIfInBounds_toArray, List.set_cons_zero, List.set_cons_succ])
  refine wpAnyJ_take 4 (v := ?_) (by first | exact hF | exact wideFn) HP.out rfl (by kernel_rfl) (by kernel_rfl) (by kernel_rfl) (by kernel_rfl) rfl ?_ (fun _ _ _ h => h) ?_
  rotate_left
  · intro W hSW
    simp only [List.getElem_toArray, List.getElem_cons_zero, List.getElem_cons_succ]
    (try dsimp only at hSW)
    go_simp
    with_reducible rfl
  (try simp only [List.getElem_toArray, List.getElem_cons_zero, List.getElem_cons_succ, Act.put, List.setIfInBounds_toArray, List.set_cons_zero, List.set_cons_succ])
  refine wpAnyJ_take 5 (v := ?_) (by first | exact hF | exact wideFn) HP.out rfl (by kernel_rfl) (by kernel_rfl) (by kernel_rfl) (by kernel_rfl) rfl ?_ (fun _ _ _ h => h) ?_
  rotate_left
  · intro W hSW
    simp only [List.getElem_toArray, List.getElem_cons_zero, List.getElem_cons_succ]
    (try dsimp only at hSW)
    go_simp
    with_reducible rfl
  (try simp only [List.getElem_toArray, List.getElem_cons_zero, List.getElem_cons_succ, Act.put, List.setIfInBounds_toArray, List.set_cons_zero, List.set_cons_succ])
  refine wpAnyJ_take 6 (v := ?_) (by first | exact hF | exact wideFn) HP.out rfl (by kernel_rfl) (by kernel_rfl) (by kernel_rfl) (by kernel_rfl) rfl ?_ (fun _ _ _ h => h) ?_
  rotate_left
  · intro W hSW
    simp only [List.getElem_toArray, List.getElem_cons_zero, List.getElem_cons_succ]
    (try dsimp only at hSW)
    go_simp
    with_reducible rfl
  (try simp only [List.getElem_toArray, List.getElem_cons_zero, List.getElem_cons_succ, Act.put, List.setIfInBounds_toArray, List.set_cons_zero, List.set_cons_succ])
  refine wpAnyJ_take 7 (v := ?_) (by first | exact hF | exact wideFn) HP.out rfl (by kernel_rfl) (by kernel_rfl) (by kernel_rfl) (by kernel_rfl) rfl ?_ (fun _ _ _ h => h) ?_
  rotate_left
  · intro W hSW
    simp only [List.getElem_toArray, List.getElem_cons_zero, List.getElem_cons_succ]
    (try dsimp only at hSW)
    go_simp
    with_reducible rfl
  (try simp only [List.getElem_toArray, List.getElem_cons_zero, List.getElem_cons_succ, Act.put, List.setIfInBounds_toArray, List.set_cons_zero, List.set_cons_succ])
  refine wpAnyJ_take 8 (v := ?_) (by first | exact hF | exact wideFn) HP.out rfl (by kernel_rfl) (by kernel_rfl) (by kernel_rfl) (by kernel_rfl) rfl ?_ (fun _ _ _ h => h) ?_
  rotate_left
  · intro W hSW
    simp only [List.getElem_toArray, List.getElem_cons_zero, List.getElem_cons_succ]
    (try dsimp only at hSW)
    go_simp
    with_reducible rfl
  (try simp only [List.getElem_toArray, List.getElem_cons_zero, List.getElem_cons_succ, Act.put, List.setIfInBounds_toArray, List.set_cons_zero, List.set_cons_succ])
  refine wpAnyJ_one 9 rfl (by kernel_rfl) (fun K hK => ?_)
  simp only [List.getElem_toArray, List.getElem_cons_zero, List.getElem_cons_succ]
  go_simp
  refine ⟨trivial, rfl, ?_⟩
  refine (callsIn_wide.2 HM.out).mono ?_
  rintro e w2 ⟨rfl, rfl⟩
  skip
  dsimp only
  refine hK.out _ _ (fun _ => HP.out) ?_
  clear hK K
  (try simp only [List.getElem_toArray, List.getElem_cons_zero, List.getElem_cons_succ, Act.put, List.setIfInBounds_toArray, List.set_cons_zero, List.set_cons_succ])
  refine wpAnyJ_take 10 (v := ?_) (by first | exact hF | exact wideFn) HP.out rfl (by kernel_rfl) (by kernel_rfl) (by kernel_rfl) (by kernel_rfl) rfl ?_ (fun _ _ _ h => h) ?_
  rotate_left
  · intro W hSW
    simp only [List.getElem_toArray, List.getElem_cons_zero, List.getElem_cons_succ]
    (try dsimp only at hSW)
    go_simp
    with_reducible rfl
  (try simp only [List.getElem_toArray, List.getElem_cons_zero, List.getElem_cons_succ, Act.put, List.setIfInBounds_toArray, List.set_cons_zero, List.set_cons_succ])
  refine wpAnyJ_done (by kernel_rfl) ?_
  go_wp2_with fail
  go_ret
  exact ⟨rfl, (Below.refl _ _).drew⟩
theorem lay1_ok (a b c d e f g n : Int) (S o p : Nat) (w : World) (hk : Kind7 w S o a b c d e f g) (ho : Ok7 a b c d e f g) (hp : w.cell? ⟨p, 0, none⟩ = some (.int .i64 n)) (hpl : p < w.heap.size) (hpS : p ≠ S) (hn : 0 ≤ n) (hn2 : n ≤ 1000000000) (hlt : n ≤ d) : Calls Try.prog 87 #[.pointer (some ⟨S, o, none⟩), .pointer (some ⟨p, 0, none⟩)] w fun en w' => en = .returned (.int .i64 0) ∧ Below w.heap.size (mv w S (o + 3) (o + 4) (d - n) (e + n)) w' := by
  obtain ⟨h0, hf, h1, h2, h3, h4, h5, h6, h7⟩ := hk
  obtain ⟨o1, o2, o3, o4, o5, o6, o7, o8, o9⟩ := ho
  have HM := hide (move_ok n d e S (o + 3) (o + 4) w.drew h4 h5 hf (by omega) hlt hn (by omega) (by omega) (by omega))
  have HP : Hid (w.drew.cell? ⟨p, 0, none⟩ = some (.int .i64 n)) := hide hp
  have HQ : Hid (∀ W, Below w.heap.size (mv w S (o + 3) (o + 4) (d - n) (e + n)) W → W.cell? ⟨p, 0, none⟩ = some (.int .i64 n)) := hide (fun W h => (h.cell (p := ⟨p, 0, none⟩) hpl).trans ((mv_far hpS).trans hp))
  clear hf h1 h2 h3 h4 h5 h6 h7 hp
  go_enter Try.func87, Try.ntmps87
  go_wp2_with fail
  refine wp_region_J (fun W : World => W.cell? ⟨p, 0, none⟩ = some (.int .i64 n)) (by kernel_rfl) ?_
  refine wpAnyJ_take 0 (v := ?_) (by first | exact hF | exact wideFn) HP.out rfl (by kernel_rfl) (by kernel_rfl) (by kernel_rfl) (by kernel_rfl) rfl ?_ (fun _ _ _ h => h) ?_
  rotate_left
  · intro W hSW
    simp only [List.getElem_toArray, List.getElem_cons_zero, List.getElem_cons_succ]
    (try dsimp only at hSW)
    go_simp
    with_reducible rfl
  (try simp only [List.getElem_toArray, List.getElem_cons_zero, List.getElem_cons_succ, Act.put, List.setIfInBounds_toArray, List.set_cons_zero, List.set_cons_succ])
  refine wpAnyJ_take 1 (v := ?_) (by first | exact hF | exact wideFn) HP.out rfl (by kernel_rfl) (by kernel_rfl) (by kernel_rfl) (by kernel_rfl) rfl ?_ (fun _ _ _ h => h) ?_
  rotate_left
  · intro W hSW
    simp only [List.getElem_toArray, List.getElem_cons_zero, List.getElem_cons_succ]
    (try dsimp only at hSW)
    go_simp
    with_reducible rfl
  (try simp only [List.getElem_toArray, List.getElem_cons_zero, List.getElem_cons_succ, Act.put, List.setIfInBounds_toArray, List.set_cons_zero, List.set_cons_succ])
  refine wpAnyJ_take 2 (v := ?_) (by first | exact hF | exact wideFn) HP.out rfl (by kernel_rfl) (by kernel_rfl) (by kernel_rfl) (by kernel_rfl) rfl ?_ (fun _ _ _ h => h) ?_
  rotate_left
  · intro W hSW
    simp only [List.getElem_toArray, List.getElem_cons_zero, List.getElem_cons_succ]
    (try dsimp only at hSW)
    go_simp
    with_reducible rfl
  (try simp only [List.getElem_toArray, List.getElem_cons_zero, List.getElem_cons_succ, Act.put, List.setIfInBounds_toArray, List.set_cons_zero, List.set_cons_succ])
  refine wpAnyJ_take 3 (v := ?_) (by first | exact hF | exact wideFn) HP.out rfl (by kernel_rfl) (by kernel_rfl) (by kernel_rfl) (by kernel_rfl) rfl ?_ (fun _ _ _ h => h) ?_
  rotate_left
  · intro W hSW
    simp only [List.getElem_toArray, List.getElem_cons_zero, List.getElem_cons_succ]
    (try dsimp only at hSW)
    go_simp
    with_reducible rfl
  (try simp only [List.getElem_toArray, List.getElem_cons_zero, List.getElem_cons_succ, Act.put, List.setIfInBounds_toArray, List.set_cons_zero, List.set_cons_succ])
  refine wpAnyJ_take 4 (v := ?_) (by first | exact hF | exact wideFn) HP.out rfl (by kernel_rfl) (by kernel_rfl) (by kernel_rfl) (by kernel_rfl) rfl ?_ (fun _ _ _ h => h) ?_
  rotate_left
  · intro W hSW
    simp only [List.getElem_toArray, List.getElem_cons_zero, List.getElem_cons_succ]
    (try dsimp only at hSW)
    go_simp
    with_reducible rfl
  (try simp only [List.getElem_toArray, List.getElem_cons_zero, List.getElem_cons_succ, Act.put, List.setIfInBounds_toArray, List.set_cons_zero, List.set_cons_succ])
  refine wpAnyJ_take 5 (v := ?_) (by first | exact hF | exact wideFn) HP.out rfl (by kernel_rfl) (by kernel_rfl) (by kernel_rfl) (by kernel_rfl) rfl ?_ (fun _ _ _ h => h) ?_
  rotate_left
  · intro W hSW
    simp only [List.getElem_toArray, List.getElem_cons_zero, List.getElem_cons_succ]
    (try dsimp only at hSW)
    go_simp
    with_reducible rfl
  (try simp only [List.getElem_toArray, List.getElem_cons_zero, List.getElem_cons_succ, Act.put, List.setIfInBounds_toArray, List.set_cons_zero, List.set_cons_succ])
  refine wpAnyJ_take 6 (v := ?_) (by first | exact hF | exact wideFn) HP.out rfl (by kernel_rfl) (by kernel_rfl) (by kernel_rfl) (by kernel_rfl) rfl ?_ (fun _ _ _ h => h) ?_
  rotate_left
  · intro W hSW
    simp only [List.getElem_toArray, List.getElem_cons_zero, List.getElem_cons_succ]
    (try dsimp only at hSW)
    go_simp
    with_reducible rfl
  (try simp only [List.getElem_toArray, List.getElem_cons_zero, List.getElem_cons_succ, Act.put, List.setIfInBounds_toArray, List.set_cons_zero, List.set_cons_succ])
  refine wpAnyJ_take 7 (v := ?_) (by first | exact hF | exact wideFn) HP.out rfl (by kernel_rfl) (by kernel_rfl) (by kernel_rfl) (by kernel_rfl) rfl ?_ (fun _ _ _ h => h) ?_
  rotate_left
  · intro W hSW
    simp only [List.getElem_toArray, List.getElem_cons_zero, List.getElem_cons_succ]
    (try dsimp only at hSW)
    go_simp
    with_reducible rfl
  (try simp only [List.getElem_toArray, List.getElem_cons_zero, List.getElem_cons_succ, Act.put, List.setIfInBounds_toArray, List.set_cons_zero, List.set_cons_succ])
  refine wpAnyJ_take 8 (v := ?_) (by first | exact hF | exact wideFn) HP.out rfl (by kernel_rfl) (by kernel_rfl) (by kernel_rfl) (by kernel_rfl) rfl ?_ (fun _ _ _ h => h) ?_
  rotate_left
  · intro W hSW
    simp only [List.getElem_toArray, List.getElem_cons_zero, List.getElem_cons_succ]
    (try dsimp only at hSW)
    go_simp
    with_reducible rfl
  (try simp only [List.getElem_toArray, List.getElem_cons_zero, List.getElem_cons_succ, Act.put, List.setIfInBounds_toArray, List.set_cons_zero, List.set_cons_succ])
  refine wpAnyJ_one 9 rfl (by kernel_rfl) (fun K hK => ?_)
  simp only [List.getElem_toArray, List.getElem_cons_zero, List.getElem_cons_succ]
  go_simp
  refine ⟨trivial, rfl, ?_⟩
  refine (callsIn_wide.2 HM.out).mono ?_
  rintro e w2 ⟨rfl, hb2⟩
  have hb2' : Below w.heap.size (mv w S (o + 3) (o + 4) (d - n) (e + n)) w2 := ⟨hb2.os, hb2.tape, hb2.output, hb2.size, hb2.block⟩
  dsimp only
  refine hK.out _ _ (fun _ => HQ.out _ hb2') ?_
  clear hK K
  (try simp only [List.getElem_toArray, List.getElem_cons_zero, List.getElem_cons_succ, Act.put, List.setIfInBounds_toArray, List.set_cons_zero, List.set_cons_succ])
  refine wpAnyJ_take 10 (v := ?_) (by first | exact hF | exact wideFn) (HQ.out _ hb2') rfl (by kernel_rfl) (by kernel_rfl) (by kernel_rfl) (by kernel_rfl) rfl ?_ (fun _ _ _ h => h) ?_
  rotate_left
  · intro W hSW
    simp only [List.getElem_toArray, List.getElem_cons_zero, List.getElem_cons_succ]
    (try dsimp only at hSW)
    go_simp
    with_reducible rfl
  (try simp only [List.getElem_toArray, List.getElem_cons_zero, List.getElem_cons_succ, Act.put, List.setIfInBounds_toArray, List.set_cons_zero, List.set_cons_succ])
  refine wpAnyJ_done (by kernel_rfl) ?_
  go_wp2_with fail
  go_ret
  exact ⟨rfl, hb2'⟩
theorem break1_state (a b c d e f g n : Int) (S o p : Nat) (w : World) (hk : Kind7 w S o a b c d e f g) (ho : Ok7 a b c d e f g) (hp : w.cell? ⟨p, 0, none⟩ = some (.int .i64 n)) (hpl : p < w.heap.size) (hpS : p ≠ S) (hn : 0 ≤ n) (hn2 : n ≤ 1000000000) (hlt : e < n) : Calls Try.prog 88 #[.pointer (some ⟨S, o, none⟩), .pointer (some ⟨p, 0, none⟩)] w fun en w' => en = .returned (.int .i64 9) ∧ Below w.heap.size w w' := by
  obtain ⟨h0, hf, h1, h2, h3, h4, h5, h6, h7⟩ := hk
  obtain ⟨o1, o2, o3, o4, o5, o6, o7, o8, o9⟩ := ho
  have HM := hide (move_lt n e S (o + 4) S (o + 5) w.drew h5 hlt)
  have HP : Hid (w.drew.cell? ⟨p, 0, none⟩ = some (.int .i64 n)) := hide hp
  clear hf h1 h2 h3 h4 h5 h6 h7 hp
  go_enter Try.func88, Try.ntmps88
  go_wp2_with fail
  refine wp_region_J (fun W : World => W.cell? ⟨p, 0, none⟩ = some (.int .i64 n)) (by kernel_rfl) ?_
  refine wpAnyJ_take 0 (v := ?_) (by first | exact hF | exact wideFn) HP.out rfl (by kernel_rfl) (by kernel_rfl) (by kernel_rfl) (by kernel_rfl) rfl ?_ (fun _ _ _ h => h) ?_
  rotate_left
  · intro W hSW
    simp only [List.getElem_toArray, List.getElem_cons_zero, List.getElem_cons_succ]
    (try dsimp only at hSW)
    go_simp
    with_reducible rfl
  (try simp only [List.getElem_toArray, List.getElem_cons_zero, List.getElem_cons_succ, Act.put, List.setIfInBounds_toArray, List.set_cons_zero, List.set_cons_succ])
  refine wpAnyJ_take 1 (v := ?_) (by first | exact hF | exact wideFn) HP.out rfl (by kernel_rfl) (by kernel_rfl) (by kernel_rfl) (by kernel_rfl) rfl ?_ (fun _ _ _ h => h) ?_
  rotate_left
  · intro W hSW
    simp only [List.getElem_toArray, List.getElem_cons_zero, List.getElem_cons_succ]
    (try dsimp only at hSW)
    go_simp
    with_reducible rfl
  (try simp only [List.getElem_toArray, List.getElem_cons_zero, List.getElem_cons_succ, Act.put, List.setIfInBounds_toArray, List.set_cons_zero, List.set_cons_succ])
  refine wpAnyJ_take 2 (v := ?_) (by first | exact hF | exact wideFn) HP.out rfl (by kernel_rfl) (by kernel_rfl) (by kernel_rfl) (by kernel_rfl) rfl ?_ (fun _ _ _ h => h) ?_
  rotate_left
  · intro W hSW
    simp only [List.getElem_toArray, List.getElem_cons_zero, List.getElem_cons_succ]
    (try dsimp only at hSW)
    go_simp
    with_reducible rfl
  (try simp only [List.getElem_toArray, List.getElem_cons_zero, List.getElem_cons_succ, Act.put, List.setIfInBounds_toArray, List.set_cons_zero, List.set_cons_succ])
  refine wpAnyJ_take 3 (v := ?_) (by first | exact hF | exact wideFn) HP.out rfl (by kernel_rfl) (by kernel_rfl) (by kernel_rfl) (by kernel_rfl) rfl ?_ (fun _ _ _ h => h) ?_
  rotate_left
  · intro W hSW
    simp only [List.getElem_toArray, List.getElem_cons_zero, List.getElem_cons_succ]
    (try dsimp only at hSW)
    go_simp
    with_reducible rfl
  (try simp only [List.getElem_toArray, List.getElem_cons_zero, List.getElem_cons_succ, Act.put, List.setIfInBounds_toArray, List.set_cons_zero, List.set_cons_succ])
  refine wpAnyJ_take 4 (v := ?_) (by first | exact hF | exact wideFn) HP.out rfl (by kernel_rfl) (by kernel_rfl) (by kernel_rfl) (by kernel_rfl) rfl ?_ (fun _ _ _ h => h) ?_
  rotate_left
  · intro W hSW
    simp only [List.getElem_toArray, List.getElem_cons_zero, List.getElem_cons_succ]
    (try dsimp only at hSW)
    go_simp
    with_reducible rfl
  (try simp only [List.getElem_toArray, List.getElem_cons_zero, List.getElem_cons_succ, Act.put, List.setIfInBounds_toArray, List.set_cons_zero, List.set_cons_succ])
  refine wpAnyJ_take 5 (v := ?_) (by first | exact hF | exact wideFn) HP.out rfl (by kernel_rfl) (by kernel_rfl) (by kernel_rfl) (by kernel_rfl) rfl ?_ (fun _ _ _ h => h) ?_
  rotate_left
  · intro W hSW
    simp only [List.getElem_toArray, List.getElem_cons_zero, List.getElem_cons_succ]
    (try dsimp only at hSW)
    go_simp
    with_reducible rfl
  (try simp only [List.getElem_toArray, List.getElem_cons_zero, List.getElem_cons_succ, Act.put, List.setIfInBounds_toArray, List.set_cons_zero, List.set_cons_succ])
  refine wpAnyJ_take 6 (v := ?_) (by first | exact hF | exact wideFn) HP.out rfl (by kernel_rfl) (by kernel_rfl) (by kernel_rfl) (by kernel_rfl) rfl ?_ (fun _ _ _ h => h) ?_
  rotate_left
  · intro W hSW
    simp only [List.getElem_toArray, List.getElem_cons_zero, List.getElem_cons_succ]
    (try dsimp only at hSW)
    go_simp
    with_reducible rfl
  (try simp only [List.getElem_toArray, List.getElem_cons_zero, List.getElem_cons_succ, Act.put, List.setIfInBounds_toArray, List.set_cons_zero, List.set_cons_succ])
  refine wpAnyJ_take 7 (v := ?_) (by first | exact hF | exact wideFn) HP.out rfl (by kernel_rfl) (by kernel_rfl) (by kernel_rfl) (by kernel_rfl) rfl ?_ (fun _ _ _ h => h) ?_
  rotate_left
  · intro W hSW
    simp only [List.getElem_toArray, List.getElem_cons_zero, List.getElem_cons_succ]
    (try dsimp only at hSW)
    go_simp
    with_reducible rfl
  (try simp only [List.getElem_toArray, List.getElem_cons_zero, List.getElem_cons_succ, Act.put, List.setIfInBounds_toArray, List.set_cons_zero, List.set_cons_succ])
  refine wpAnyJ_take 8 (v := ?_) (by first | exact hF | exact wideFn) HP.out rfl (by kernel_rfl) (by kernel_rfl) (by kernel_rfl) (by kernel_rfl) rfl ?_ (fun _ _ _ h => h) ?_
  rotate_left
  · intro W hSW
    simp only [List.getElem_toArray, List.getElem_cons_zero, List.getElem_cons_succ]
    (try dsimp only at hSW)
    go_simp
    with_reducible rfl
  (try simp only [List.getElem_toArray, List.getElem_cons_zero, List.getElem_cons_succ, Act.put, List.setIfInBounds_toArray, List.set_cons_zero, List.set_cons_succ])
  refine wpAnyJ_one 9 rfl (by kernel_rfl) (fun K hK => ?_)
  simp only [List.getElem_toArray, List.getElem_cons_zero, List.getElem_cons_succ]
  go_simp
  refine ⟨trivial, rfl, ?_⟩
  refine (callsIn_wide.2 HM.out).mono ?_
  rintro e w2 ⟨rfl, rfl⟩
  skip
  dsimp only
  refine hK.out _ _ (fun _ => HP.out) ?_
  clear hK K
  (try simp only [List.getElem_toArray, List.getElem_cons_zero, List.getElem_cons_succ, Act.put, List.setIfInBounds_toArray, List.set_cons_zero, List.set_cons_succ])
  refine wpAnyJ_take 10 (v := ?_) (by first | exact hF | exact wideFn) HP.out rfl (by kernel_rfl) (by kernel_rfl) (by kernel_rfl) (by kernel_rfl) rfl ?_ (fun _ _ _ h => h) ?_
  rotate_left
  · intro W hSW
    simp only [List.getElem_toArray, List.getElem_cons_zero, List.getElem_cons_succ]
    (try dsimp only at hSW)
    go_simp
    with_reducible rfl
  (try simp only [List.getElem_toArray, List.getElem_cons_zero, List.getElem_cons_succ, Act.put, List.setIfInBounds_toArray, List.set_cons_zero, List.set_cons_succ])
  refine wpAnyJ_done (by kernel_rfl) ?_
  go_wp2_with fail
  go_ret
  exact ⟨rfl, (Below.refl _ _).drew⟩
theorem break1_ok (a b c d e f g n : Int) (S o p : Nat) (w : World) (hk : Kind7 w S o a b c d e f g) (ho : Ok7 a b c d e f g) (hp : w.cell? ⟨p, 0, none⟩ = some (.int .i64 n)) (hpl : p < w.heap.size) (hpS : p ≠ S) (hn : 0 ≤ n) (hn2 : n ≤ 1000000000) (hlt : n ≤ e) : Calls Try.prog 88 #[.pointer (some ⟨S, o, none⟩), .pointer (some ⟨p, 0, none⟩)] w fun en w' => en = .returned (.int .i64 0) ∧ Below w.heap.size ((mv w S (o + 4) (o + 5) (e - n) (f + n)).setCell ⟨S, o + 6, none⟩ (.int .i64 (g + n))) w' := by
  obtain ⟨h0, hf, h1, h2, h3, h4, h5, h6, h7⟩ := hk
  obtain ⟨o1, o2, o3, o4, o5, o6, o7, o8, o9⟩ := ho
  have HM := hide (move_ok n e f S (o + 4) (o + 5) w.drew h5 h6 hf (by omega) hlt hn (by omega) (by omega) (by omega))
  have HP : Hid (w.drew.cell? ⟨p, 0, none⟩ = some (.int .i64 n)) := hide hp
  have HQ : Hid (∀ W, Below w.heap.size (mv w S (o + 4) (o + 5) (e - n) (f + n)) W → W.cell? ⟨p, 0, none⟩ = some (.int .i64 n)) := hide (fun W h => (h.cell (p := ⟨p, 0, none⟩) hpl).trans ((mv_far hpS).trans hp))
  have HF := hide hf
  have G7 := hide h7
  clear hf h1 h2 h3 h4 h5 h6 h7 hp
  go_enter Try.func88, Try.ntmps88
  go_wp2_with fail
  refine wp_region_J (fun W : World => W.cell? ⟨p, 0, none⟩ = some (.int .i64 n)) (by kernel_rfl) ?_
  refine wpAnyJ_take 0 (v := ?_) (by first | exact hF | exact wideFn) HP.out rfl (by kernel_rfl) (by kernel_rfl) (by kernel_rfl) (by kernel_rfl) rfl ?_ (fun _ _ _ h => h) ?_
  rotate_left
  · intro W hSW
    simp only [List.getElem_toArray, List.getElem_cons_zero, List.getElem_cons_succ]
    (try dsimp only at hSW)
    go_simp
    with_reducible rfl
  (try simp only [List.getElem_toArray, List.getElem_cons_zero, List.getElem_cons_succ, Act.put, List.setIfInBounds_toArray, List.set_cons_zero, List.set_cons_succ])
  refine wpAnyJ_take 1 (v := ?_) (by first | exact hF | exact wideFn) HP.out rfl (by kernel_rfl) (by kernel_rfl) (by kernel_rfl) (by kernel_rfl) rfl ?_ (fun _ _ _ h => h) ?_
  rotate_left
  · intro W hSW
    simp only [List.getElem_toArray, List.getElem_cons_zero, List.getElem_cons_succ]
    (try dsimp only at hSW)
    go_simp
    with_reducible rfl
  (try simp only [List.getElem_toArray, List.getElem_cons_zero, List.getElem_cons_succ, Act.put, List.setIfInBounds_toArray, List.set_cons_zero, List.set_cons_succ])
  refine wpAnyJ_take 2 (v := ?_) (by first | exact hF | exact wideFn) HP.out rfl (by kernel_rfl) (by kernel_rfl) (by kernel_rfl) (by kernel_rfl) rfl ?_ (fun _ _ _ h => h) ?_
  rotate_left
  · intro W hSW
    simp only [List.getElem_toArray, List.getElem_cons_zero, List.getElem_cons_succ]
    (try dsimp only at hSW)
    go_simp
    with_reducible rfl
  (try simp only [List.getElem_toArray, List.getElem_cons_zero, List.getElem_cons_succ, Act.put, List.setIfInBounds_toArray, List.set_cons_zero, List.set_cons_succ])
  refine wpAnyJ_take 3 (v := ?_) (by first | exact hF | exact wideFn) HP.out rfl (by kernel_rfl) (by kernel_rfl) (by kernel_rfl) (by kernel_rfl) rfl ?_ (fun _ _ _ h => h) ?_
  rotate_left
  · intro W hSW
    simp only [List.getElem_toArray, List.getElem_cons_zero, List.getElem_cons_succ]
    (try dsimp only at hSW)
    go_simp
    with_reducible rfl
  (try simp only [List.getElem_toArray, List.getElem_cons_zero, List.getElem_cons_succ, Act.put, List.setIfInBounds_toArray, List.set_cons_zero, List.set_cons_succ])
  refine wpAnyJ_take 4 (v := ?_) (by first | exact hF | exact wideFn) HP.out rfl (by kernel_rfl) (by kernel_rfl) (by kernel_rfl) (by kernel_rfl) rfl ?_ (fun _ _ _ h => h) ?_
  rotate_left
  · intro W hSW
    simp only [List.getElem_toArray, List.getElem_cons_zero, List.getElem_cons_succ]
    (try dsimp only at hSW)
    go_simp
    with_reducible rfl
  (try simp only [List.getElem_toArray, List.getElem_cons_zero, List.getElem_cons_succ, Act.put, List.setIfInBounds_toArray, List.set_cons_zero, List.set_cons_succ])
  refine wpAnyJ_take 5 (v := ?_) (by first | exact hF | exact wideFn) HP.out rfl (by kernel_rfl) (by kernel_rfl) (by kernel_rfl) (by kernel_rfl) rfl ?_ (fun _ _ _ h => h) ?_
  rotate_left
  · intro W hSW
    simp only [List.getElem_toArray, List.getElem_cons_zero, List.getElem_cons_succ]
    (try dsimp only at hSW)
    go_simp
    with_reducible rfl
  (try simp only [List.getElem_toArray, List.getElem_cons_zero, List.getElem_cons_succ, Act.put, List.setIfInBounds_toArray, List.set_cons_zero, List.set_cons_succ])
  refine wpAnyJ_take 6 (v := ?_) (by first | exact hF | exact wideFn) HP.out rfl (by kernel_rfl) (by kernel_rfl) (by kernel_rfl) (by kernel_rfl) rfl ?_ (fun _ _ _ h => h) ?_
  rotate_left
  · intro W hSW
    simp only [List.getElem_toArray, List.getElem_cons_zero, List.getElem_cons_succ]
    (try dsimp only at hSW)
    go_simp
    with_reducible rfl
  (try simp only [List.getElem_toArray, List.getElem_cons_zero, List.getElem_cons_succ, Act.put, List.setIfInBounds_toArray, List.set_cons_zero, List.set_cons_succ])
  refine wpAnyJ_take 7 (v := ?_) (by first | exact hF | exact wideFn) HP.out rfl (by kernel_rfl) (by kernel_rfl) (by kernel_rfl) (by kernel_rfl) rfl ?_ (fun _ _ _ h => h) ?_
  rotate_left
  · intro W hSW
    simp only [List.getElem_toArray, List.getElem_cons_zero, List.getElem_cons_succ]
    (try dsimp only at hSW)
    go_simp
    with_reducible rfl
  (try simp only [List.getElem_toArray, List.getElem_cons_zero, List.getElem_cons_succ, Act.put, List.setIfInBounds_toArray, List.set_cons_zero, List.set_cons_succ])
  refine wpAnyJ_take 8 (v := ?_) (by first | exact hF | exact wideFn) HP.out rfl (by kernel_rfl) (by kernel_rfl) (by kernel_rfl) (by kernel_rfl) rfl ?_ (fun _ _ _ h => h) ?_
  rotate_left
  · intro W hSW
    simp only [List.getElem_toArray, List.getElem_cons_zero, List.getElem_cons_succ]
    (try dsimp only at hSW)
    go_simp
    with_reducible rfl
  (try simp only [List.getElem_toArray, List.getElem_cons_zero, List.getElem_cons_succ, Act.put, List.setIfInBounds_toArray, List.set_cons_zero, List.set_cons_succ])
  refine wpAnyJ_one 9 rfl (by kernel_rfl) (fun K hK => ?_)
  simp only [List.getElem_toArray, List.getElem_cons_zero, List.getElem_cons_succ]
  go_simp
  refine ⟨trivial, rfl, ?_⟩
  refine (callsIn_wide.2 HM.out).mono ?_
  rintro e w2 ⟨rfl, hb2⟩
  have hb2' : Below w.heap.size (mv w S (o + 4) (o + 5) (e - n) (f + n)) w2 := ⟨hb2.os, hb2.tape, hb2.output, hb2.size, hb2.block⟩
  dsimp only
  refine hK.out _ _ (fun _ => HQ.out _ hb2') ?_
  clear hK K
  (try simp only [List.getElem_toArray, List.getElem_cons_zero, List.getElem_cons_succ, Act.put, List.setIfInBounds_toArray, List.set_cons_zero, List.set_cons_succ])
  refine wpAnyJ_take 10 (v := ?_) (by first | exact hF | exact wideFn) (HQ.out _ hb2') rfl (by kernel_rfl) (by kernel_rfl) (by kernel_rfl) (by kernel_rfl) rfl ?_ (fun _ _ _ h => h) ?_
  rotate_left
  · intro W hSW
    simp only [List.getElem_toArray, List.getElem_cons_zero, List.getElem_cons_succ]
    (try dsimp only at hSW)
    go_simp
    with_reducible rfl
  (try simp only [List.getElem_toArray, List.getElem_cons_zero, List.getElem_cons_succ, Act.put, List.setIfInBounds_toArray, List.set_cons_zero, List.set_cons_succ])
  refine wpAnyJ_done (by kernel_rfl) ?_
  have m7 : w2.cell? ⟨S, o + 6, none⟩ = some (.int .i64 g) := (hb2'.cell (p := ⟨S, o + 6, none⟩) h0).trans (mv_cell G7.out (by omega) (by omega))
  have mp : w2.cell? ⟨p, 0, none⟩ = some (.int .i64 n) := HQ.out _ hb2'
  have mf : w2.frozen? ⟨S, o + 6, none⟩ = false := (hb2'.frozen (p := ⟨S, o + 6, none⟩) h0).trans ((mv_frozen _ _ _ _ _ _ _).trans (HF.out _))
  have ms : S < w2.heap.size := by have := hb2'.size; rw [size_mv] at this; omega
  go_wp2_with fail
  go_region
  all_goals
    go_wp2_with fail
    go_ret
    exact ⟨rfl, (setB hb2' _ _).drew⟩
theorem replace1_miss (a b c d e f g n : Int) (S o p : Nat) (w : World) (hk : Kind7 w S o a b c d e f g) (ho : Ok7 a b c d e f g) (hp : w.cell? ⟨p, 0, none⟩ = some (.int .i64 n)) (hpl : p < w.heap.size) (hpS : p ≠ S) (hn : 0 ≤ n) (hn2 : n ≤ 1000000000) (hlt : g < n) : Calls Try.prog 89 #[.pointer (some ⟨S, o, none⟩), .pointer (some ⟨p, 0, none⟩)] w fun en w' => en = .returned (.int .i64 9) ∧ Below w.heap.size w w' := by
  obtain ⟨h0, hf, h1, h2, h3, h4, h5, h6, h7⟩ := hk
  obtain ⟨o1, o2, o3, o4, o5, o6, o7, o8, o9⟩ := ho
  clear hf h1 h2 h3 h4 h5 h6
  have HG : Hid (w.drew.cell? ⟨p, 0, none⟩ = some (.int .i64 n) ∧ w.drew.cell? ⟨S, o + 6, none⟩ = some (.int .i64 g)) := hide ⟨hp, h7⟩
  go_enter Try.func89, Try.ntmps89
  go_wp2_with fail
  refine wp_region_J (fun W : World => W.cell? ⟨p, 0, none⟩ = some (.int .i64 n) ∧ W.cell? ⟨S, o + 6, none⟩ = some (.int .i64 g)) (by kernel_rfl) ?_
  clear h7 hp
  refine wpAnyJ_take 0 (v := ?_) (by first | exact hF | exact wideFn) HG.out rfl (by kernel_rfl) (by kernel_rfl) (by kernel_rfl) (by kernel_rfl) rfl ?_ (fun _ _ _ h => h) ?_
  rotate_left
  · intro W hSW
    simp only [List.getElem_toArray, List.getElem_cons_zero, List.getElem_cons_succ]
    (try dsimp only at hSW)
    go_simp
    with_reducible rfl
  (try simp only [List.getElem_toArray, List.getElem_cons_zero, List.getElem_cons_succ, Act.put, List.setIfInBounds_toArray, List.set_cons_zero, List.set_cons_succ])
  refine wpAnyJ_take 1 (v := ?_) (by first | exact hF | exact wideFn) HG.out rfl (by kernel_rfl) (by kernel_rfl) (by kernel_rfl) (by kernel_rfl) rfl ?_ (fun _ _ _ h => h) ?_
  rotate_left
  · intro W hSW
    simp only [List.getElem_toArray, List.getElem_cons_zero, List.getElem_cons_succ]
    (try dsimp only at hSW)
    go_simp
    with_reducible rfl
  (try simp only [List.getElem_toArray, List.getElem_cons_zero, List.getElem_cons_succ, Act.put, List.setIfInBounds_toArray, List.set_cons_zero, List.set_cons_succ])
  refine wpAnyJ_take 2 (v := ?_) (by first | exact hF | exact wideFn) HG.out rfl (by kernel_rfl) (by kernel_rfl) (by kernel_rfl) (by kernel_rfl) rfl ?_ (fun _ _ _ h => h) ?_
  rotate_left
  · intro W hSW
    simp only [List.getElem_toArray, List.getElem_cons_zero, List.getElem_cons_succ]
    (try dsimp only at hSW)
    go_simp
    with_reducible rfl
  (try simp only [List.getElem_toArray, List.getElem_cons_zero, List.getElem_cons_succ, Act.put, List.setIfInBounds_toArray, List.set_cons_zero, List.set_cons_succ])
  refine wpAnyJ_take 3 (v := ?_) (by first | exact hF | exact wideFn) HG.out rfl (by kernel_rfl) (by kernel_rfl) (by kernel_rfl) (by kernel_rfl) rfl ?_ (fun _ _ _ h => h) ?_
  rotate_left
  · intro W hSW
    simp only [List.getElem_toArray, List.getElem_cons_zero, List.getElem_cons_succ]
    (try dsimp only at hSW)
    go_simp
    with_reducible rfl
  (try simp only [List.getElem_toArray, List.getElem_cons_zero, List.getElem_cons_succ, Act.put, List.setIfInBounds_toArray, List.set_cons_zero, List.set_cons_succ])
  refine wpAnyJ_take 4 (v := ?_) (by first | exact hF | exact wideFn) HG.out rfl (by kernel_rfl) (by kernel_rfl) (by kernel_rfl) (by kernel_rfl) rfl ?_ (fun _ _ _ h => h) ?_
  rotate_left
  · intro W hSW
    simp only [List.getElem_toArray, List.getElem_cons_zero, List.getElem_cons_succ]
    (try dsimp only at hSW)
    go_simp
    with_reducible rfl
  (try simp only [List.getElem_toArray, List.getElem_cons_zero, List.getElem_cons_succ, Act.put, List.setIfInBounds_toArray, List.set_cons_zero, List.set_cons_succ])
  refine wpAnyJ_take 5 (v := ?_) (by first | exact hF | exact wideFn) HG.out rfl (by kernel_rfl) (by kernel_rfl) (by kernel_rfl) (by kernel_rfl) rfl ?_ (fun _ _ _ h => h) ?_
  rotate_left
  · intro W hSW
    simp only [List.getElem_toArray, List.getElem_cons_zero, List.getElem_cons_succ]
    (try dsimp only at hSW)
    go_simp
    with_reducible rfl
  (try simp only [List.getElem_toArray, List.getElem_cons_zero, List.getElem_cons_succ, Act.put, List.setIfInBounds_toArray, List.set_cons_zero, List.set_cons_succ])
  refine wpAnyJ_take 6 (v := ?_) (by first | exact hF | exact wideFn) HG.out rfl (by kernel_rfl) (by kernel_rfl) (by kernel_rfl) (by kernel_rfl) rfl ?_ (fun _ _ _ h => h) ?_
  rotate_left
  · intro W hSW
    simp only [List.getElem_toArray, List.getElem_cons_zero, List.getElem_cons_succ]
    (try dsimp only at hSW)
    go_simp
    with_reducible rfl
  (try simp only [List.getElem_toArray, List.getElem_cons_zero, List.getElem_cons_succ, Act.put, List.setIfInBounds_toArray, List.set_cons_zero, List.set_cons_succ])
  refine wpAnyJ_done (by kernel_rfl) ?_
  go_wp2_with fail
  go_ret
  exact ⟨rfl, (Below.refl _ _).drew⟩
theorem replace1_state (a b c d e f g n : Int) (S o p : Nat) (w : World) (hk : Kind7 w S o a b c d e f g) (ho : Ok7 a b c d e f g) (hp : w.cell? ⟨p, 0, none⟩ = some (.int .i64 n)) (hpl : p < w.heap.size) (hpS : p ≠ S) (hn : 0 ≤ n) (hn2 : n ≤ 1000000000) (hg : n ≤ g) (hlt : d < n) : Calls Try.prog 89 #[.pointer (some ⟨S, o, none⟩), .pointer (some ⟨p, 0, none⟩)] w fun en w' => en = .returned (.int .i64 9) ∧ Below w.heap.size w w' := by
  obtain ⟨h0, hf, h1, h2, h3, h4, h5, h6, h7⟩ := hk
  obtain ⟨o1, o2, o3, o4, o5, o6, o7, o8, o9⟩ := ho
  have HM := hide (move_lt n d S (o + 3) S (o + 4) w.drew.drew h4 hlt)
  have HP : Hid (w.drew.drew.cell? ⟨p, 0, none⟩ = some (.int .i64 n)) := hide hp
  clear hf h1 h2 h3 h4 h5 h6
  have HG : Hid (w.drew.cell? ⟨p, 0, none⟩ = some (.int .i64 n) ∧ w.drew.cell? ⟨S, o + 6, none⟩ = some (.int .i64 g)) := hide ⟨hp, h7⟩
  go_enter Try.func89, Try.ntmps89
  go_wp2_with fail
  refine wp_region_J (fun W : World => W.cell? ⟨p, 0, none⟩ = some (.int .i64 n) ∧ W.cell? ⟨S, o + 6, none⟩ = some (.int .i64 g)) (by kernel_rfl) ?_
  clear h7 hp
  refine wpAnyJ_take 0 (v := ?_) (by first | exact hF | exact wideFn) HG.out rfl (by kernel_rfl) (by kernel_rfl) (by kernel_rfl) (by kernel_rfl) rfl ?_ (fun _ _ _ h => h) ?_
  rotate_left
  · intro W hSW
    simp only [List.getElem_toArray, List.getElem_cons_zero, List.getElem_cons_succ]
    (try dsimp only at hSW)
    go_simp
    with_reducible rfl
  (try simp only [List.getElem_toArray, List.getElem_cons_zero, List.getElem_cons_succ, Act.put, List.setIfInBounds_toArray, List.set_cons_zero, List.set_cons_succ])
  refine wpAnyJ_take 1 (v := ?_) (by first | exact hF | exact wideFn) HG.out rfl (by kernel_rfl) (by kernel_rfl) (by kernel_rfl) (by kernel_rfl) rfl ?_ (fun _ _ _ h => h) ?_
  rotate_left
  · intro W hSW
    simp only [List.getElem_toArray, List.getElem_cons_zero, List.getElem_cons_succ]
    (try dsimp only at hSW)
    go_simp
    with_reducible rfl
  (try simp only [List.getElem_toArray, List.getElem_cons_zero, List.getElem_cons_succ, Act.put, List.setIfInBounds_toArray, List.set_cons_zero, List.set_cons_succ])
  refine wpAnyJ_take 2 (v := ?_) (by first | exact hF | exact wideFn) HG.out rfl (by kernel_rfl) (by kernel_rfl) (by kernel_rfl) (by kernel_rfl) rfl ?_ (fun _ _ _ h => h) ?_
  rotate_left
  · intro W hSW
    simp only [List.getElem_toArray, List.getElem_cons_zero, List.getElem_cons_succ]
    (try dsimp only at hSW)
    go_simp
    with_reducible rfl
  (try simp only [List.getElem_toArray, List.getElem_cons_zero, List.getElem_cons_succ, Act.put, List.setIfInBounds_toArray, List.set_cons_zero, List.set_cons_succ])
  refine wpAnyJ_take 3 (v := ?_) (by first | exact hF | exact wideFn) HG.out rfl (by kernel_rfl) (by kernel_rfl) (by kernel_rfl) (by kernel_rfl) rfl ?_ (fun _ _ _ h => h) ?_
  rotate_left
  · intro W hSW
    simp only [List.getElem_toArray, List.getElem_cons_zero, List.getElem_cons_succ]
    (try dsimp only at hSW)
    go_simp
    with_reducible rfl
  (try simp only [List.getElem_toArray, List.getElem_cons_zero, List.getElem_cons_succ, Act.put, List.setIfInBounds_toArray, List.set_cons_zero, List.set_cons_succ])
  refine wpAnyJ_take 4 (v := ?_) (by first | exact hF | exact wideFn) HG.out rfl (by kernel_rfl) (by kernel_rfl) (by kernel_rfl) (by kernel_rfl) rfl ?_ (fun _ _ _ h => h) ?_
  rotate_left
  · intro W hSW
    simp only [List.getElem_toArray, List.getElem_cons_zero, List.getElem_cons_succ]
    (try dsimp only at hSW)
    go_simp
    with_reducible rfl
  (try simp only [List.getElem_toArray, List.getElem_cons_zero, List.getElem_cons_succ, Act.put, List.setIfInBounds_toArray, List.set_cons_zero, List.set_cons_succ])
  refine wpAnyJ_take 5 (v := ?_) (by first | exact hF | exact wideFn) HG.out rfl (by kernel_rfl) (by kernel_rfl) (by kernel_rfl) (by kernel_rfl) rfl ?_ (fun _ _ _ h => h) ?_
  rotate_left
  · intro W hSW
    simp only [List.getElem_toArray, List.getElem_cons_zero, List.getElem_cons_succ]
    (try dsimp only at hSW)
    go_simp
    with_reducible rfl
  (try simp only [List.getElem_toArray, List.getElem_cons_zero, List.getElem_cons_succ, Act.put, List.setIfInBounds_toArray, List.set_cons_zero, List.set_cons_succ])
  refine wpAnyJ_take 6 (v := ?_) (by first | exact hF | exact wideFn) HG.out rfl (by kernel_rfl) (by kernel_rfl) (by kernel_rfl) (by kernel_rfl) rfl ?_ (fun _ _ _ h => h) ?_
  rotate_left
  · intro W hSW
    simp only [List.getElem_toArray, List.getElem_cons_zero, List.getElem_cons_succ]
    (try dsimp only at hSW)
    go_simp
    with_reducible rfl
  (try simp only [List.getElem_toArray, List.getElem_cons_zero, List.getElem_cons_succ, Act.put, List.setIfInBounds_toArray, List.set_cons_zero, List.set_cons_succ])
  refine wpAnyJ_done (by kernel_rfl) ?_
  go_wp2_with fail
  refine wp_region_J (fun W : World => W.cell? ⟨p, 0, none⟩ = some (.int .i64 n)) (by kernel_rfl) ?_
  refine wpAnyJ_take 0 (v := ?_) (by first | exact hF | exact wideFn) HP.out rfl (by kernel_rfl) (by kernel_rfl) (by kernel_rfl) (by kernel_rfl) rfl ?_ (fun _ _ _ h => h) ?_
  rotate_left
  · intro W hSW
    simp only [List.getElem_toArray, List.getElem_cons_zero, List.getElem_cons_succ]
    (try dsimp only at hSW)
    go_simp
    with_reducible rfl
  (try simp only [List.getElem_toArray, List.getElem_cons_zero, List.getElem_cons_succ, Act.put, List.setIfInBounds_toArray, List.set_cons_zero, List.set_cons_succ])
  refine wpAnyJ_take 1 (v := ?_) (by first | exact hF | exact wideFn) HP.out rfl (by kernel_rfl) (by kernel_rfl) (by kernel_rfl) (by kernel_rfl) rfl ?_ (fun _ _ _ h => h) ?_
  rotate_left
  · intro W hSW
    simp only [List.getElem_toArray, List.getElem_cons_zero, List.getElem_cons_succ]
    (try dsimp only at hSW)
    go_simp
    with_reducible rfl
  (try simp only [List.getElem_toArray, List.getElem_cons_zero, List.getElem_cons_succ, Act.put, List.setIfInBounds_toArray, List.set_cons_zero, List.set_cons_succ])
  refine wpAnyJ_take 2 (v := ?_) (by first | exact hF | exact wideFn) HP.out rfl (by kernel_rfl) (by kernel_rfl) (by kernel_rfl) (by kernel_rfl) rfl ?_ (fun _ _ _ h => h) ?_
  rotate_left
  · intro W hSW
    simp only [List.getElem_toArray, List.getElem_cons_zero, List.getElem_cons_succ]
    (try dsimp only at hSW)
    go_simp
    with_reducible rfl
  (try simp only [List.getElem_toArray, List.getElem_cons_zero, List.getElem_cons_succ, Act.put, List.setIfInBounds_toArray, List.set_cons_zero, List.set_cons_succ])
  refine wpAnyJ_take 3 (v := ?_) (by first | exact hF | exact wideFn) HP.out rfl (by kernel_rfl) (by kernel_rfl) (by kernel_rfl) (by kernel_rfl) rfl ?_ (fun _ _ _ h => h) ?_
  rotate_left
  · intro W hSW
    simp only [List.getElem_toArray, List.getElem_cons_zero, List.getElem_cons_succ]
    (try dsimp only at hSW)
    go_simp
    with_reducible rfl
  (try simp only [List.getElem_toArray, List.getElem_cons_zero, List.getElem_cons_succ, Act.put, List.setIfInBounds_toArray, List.set_cons_zero, List.set_cons_succ])
  refine wpAnyJ_take 4 (v := ?_) (by first | exact hF | exact wideFn) HP.out rfl (by kernel_rfl) (by kernel_rfl) (by kernel_rfl) (by kernel_rfl) rfl ?_ (fun _ _ _ h => h) ?_
  rotate_left
  · intro W hSW
    simp only [List.getElem_toArray, List.getElem_cons_zero, List.getElem_cons_succ]
    (try dsimp only at hSW)
    go_simp
    with_reducible rfl
  (try simp only [List.getElem_toArray, List.getElem_cons_zero, List.getElem_cons_succ, Act.put, List.setIfInBounds_toArray, List.set_cons_zero, List.set_cons_succ])
  refine wpAnyJ_take 5 (v := ?_) (by first | exact hF | exact wideFn) HP.out rfl (by kernel_rfl) (by kernel_rfl) (by kernel_rfl) (by kernel_rfl) rfl ?_ (fun _ _ _ h => h) ?_
  rotate_left
  · intro W hSW
    simp only [List.getElem_toArray, List.getElem_cons_zero, List.getElem_cons_succ]
    (try dsimp only at hSW)
    go_simp
    with_reducible rfl
  (try simp only [List.getElem_toArray, List.getElem_cons_zero, List.getElem_cons_succ, Act.put, List.setIfInBounds_toArray, List.set_cons_zero, List.set_cons_succ])
  refine wpAnyJ_take 6 (v := ?_) (by first | exact hF | exact wideFn) HP.out rfl (by kernel_rfl) (by kernel_rfl) (by kernel_rfl) (by kernel_rfl) rfl ?_ (fun _ _ _ h => h) ?_
  rotate_left
  · intro W hSW
    simp only [List.getElem_toArray, List.getElem_cons_zero, List.getElem_cons_succ]
    (try dsimp only at hSW)
    go_simp
    with_reducible rfl
  (try simp only [List.getElem_toArray, List.getElem_cons_zero, List.getElem_cons_succ, Act.put, List.setIfInBounds_toArray, List.set_cons_zero, List.set_cons_succ])
  refine wpAnyJ_take 7 (v := ?_) (by first | exact hF | exact wideFn) HP.out rfl (by kernel_rfl) (by kernel_rfl) (by kernel_rfl) (by kernel_rfl) rfl ?_ (fun _ _ _ h => h) ?_
  rotate_left
  · intro W hSW
    simp only [List.getElem_toArray, List.getElem_cons_zero, List.getElem_cons_succ]
    (try dsimp only at hSW)
    go_simp
    with_reducible rfl
  (try simp only [List.getElem_toArray, List.getElem_cons_zero, List.getElem_cons_succ, Act.put, List.setIfInBounds_toArray, List.set_cons_zero, List.set_cons_succ])
  refine wpAnyJ_take 8 (v := ?_) (by first | exact hF | exact wideFn) HP.out rfl (by kernel_rfl) (by kernel_rfl) (by kernel_rfl) (by kernel_rfl) rfl ?_ (fun _ _ _ h => h) ?_
  rotate_left
  · intro W hSW
    simp only [List.getElem_toArray, List.getElem_cons_zero, List.getElem_cons_succ]
    (try dsimp only at hSW)
    go_simp
    with_reducible rfl
  (try simp only [List.getElem_toArray, List.getElem_cons_zero, List.getElem_cons_succ, Act.put, List.setIfInBounds_toArray, List.set_cons_zero, List.set_cons_succ])
  refine wpAnyJ_one 9 rfl (by kernel_rfl) (fun K hK => ?_)
  simp only [List.getElem_toArray, List.getElem_cons_zero, List.getElem_cons_succ]
  go_simp
  refine ⟨trivial, rfl, ?_⟩
  refine (callsIn_wide.2 HM.out).mono ?_
  rintro e w2 ⟨rfl, rfl⟩
  skip
  dsimp only
  refine hK.out _ _ (fun _ => HP.out) ?_
  clear hK K
  (try simp only [List.getElem_toArray, List.getElem_cons_zero, List.getElem_cons_succ, Act.put, List.setIfInBounds_toArray, List.set_cons_zero, List.set_cons_succ])
  refine wpAnyJ_take 10 (v := ?_) (by first | exact hF | exact wideFn) HP.out rfl (by kernel_rfl) (by kernel_rfl) (by kernel_rfl) (by kernel_rfl) rfl ?_ (fun _ _ _ h => h) ?_
  rotate_left
  · intro W hSW
    simp only [List.getElem_toArray, List.getElem_cons_zero, List.getElem_cons_succ]
    (try dsimp only at hSW)
    go_simp
    with_reducible rfl
  (try simp only [List.getElem_toArray, List.getElem_cons_zero, List.getElem_cons_succ, Act.put, List.setIfInBounds_toArray, List.set_cons_zero, List.set_cons_succ])
  refine wpAnyJ_done (by kernel_rfl) ?_
  go_wp2_with fail
  go_ret
  exact ⟨rfl, (Below.refl _ _).drew.drew⟩
theorem replace1_ok (a b c d e f g n : Int) (S o p : Nat) (w : World) (hk : Kind7 w S o a b c d e f g) (ho : Ok7 a b c d e f g) (hp : w.cell? ⟨p, 0, none⟩ = some (.int .i64 n)) (hpl : p < w.heap.size) (hpS : p ≠ S) (hn : 0 ≤ n) (hn2 : n ≤ 1000000000) (hg : n ≤ g) (hlt : n ≤ d) : Calls Try.prog 89 #[.pointer (some ⟨S, o, none⟩), .pointer (some ⟨p, 0, none⟩)] w fun en w' => en = .returned (.int .i64 0) ∧ Below w.heap.size ((mv w S (o + 3) (o + 4) (d - n) (e + n)).setCell ⟨S, o + 6, none⟩ (.int .i64 (g - n))) w' := by
  obtain ⟨h0, hf, h1, h2, h3, h4, h5, h6, h7⟩ := hk
  obtain ⟨o1, o2, o3, o4, o5, o6, o7, o8, o9⟩ := ho
  have HM := hide (move_ok n d e S (o + 3) (o + 4) w.drew.drew h4 h5 hf (by omega) hlt hn (by omega) (by omega) (by omega))
  have HP : Hid (w.drew.drew.cell? ⟨p, 0, none⟩ = some (.int .i64 n)) := hide hp
  have HQ : Hid (∀ W, Below w.heap.size (mv w S (o + 3) (o + 4) (d - n) (e + n)) W → W.cell? ⟨p, 0, none⟩ = some (.int .i64 n)) := hide (fun W h => (h.cell (p := ⟨p, 0, none⟩) hpl).trans ((mv_far hpS).trans hp))
  have HF := hide hf
  have G7 := hide h7
  clear hf h1 h2 h3 h4 h5 h6
  have HG : Hid (w.drew.cell? ⟨p, 0, none⟩ = some (.int .i64 n) ∧ w.drew.cell? ⟨S, o + 6, none⟩ = some (.int .i64 g)) := hide ⟨hp, h7⟩
  go_enter Try.func89, Try.ntmps89
  go_wp2_with fail
  refine wp_region_J (fun W : World => W.cell? ⟨p, 0, none⟩ = some (.int .i64 n) ∧ W.cell? ⟨S, o + 6, none⟩ = some (.int .i64 g)) (by kernel_rfl) ?_
  clear h7 hp
  refine wpAnyJ_take 0 (v := ?_) (by first | exact hF | exact wideFn) HG.out rfl (by kernel_rfl) (by kernel_rfl) (by kernel_rfl) (by kernel_rfl) rfl ?_ (fun _ _ _ h => h) ?_
  rotate_left
  · intro W hSW
    simp only [List.getElem_toArray, List.getElem_cons_zero, List.getElem_cons_succ]
    (try dsimp only at hSW)
    go_simp
    with_reducible rfl
  (try simp only [List.getElem_toArray, List.getElem_cons_zero, List.getElem_cons_succ, Act.put, List.setIfInBounds_toArray, List.set_cons_zero, List.set_cons_succ])
  refine wpAnyJ_take 1 (v := ?_) (by first | exact hF | exact wideFn) HG.out rfl (by kernel_rfl) (by kernel_rfl) (by kernel_rfl) (by kernel_rfl) rfl ?_ (fun _ _ _ h => h) ?_
  rotate_left
  · intro W hSW
    simp only [List.getElem_toArray, List.getElem_cons_zero, List.getElem_cons_succ]
    (try dsimp only at hSW)
    go_simp
    with_reducible rfl
  (try simp only [List.getElem_toArray, List.getElem_cons_zero, List.getElem_cons_succ, Act.put, List.setIfInBounds_toArray, List.set_cons_zero, List.set_cons_succ])
  refine wpAnyJ_take 2 (v := ?_) (by first | exact hF | exact wideFn) HG.out rfl (by kernel_rfl) (by kernel_rfl) (by kernel_rfl) (by kernel_rfl) rfl ?_ (fun _ _ _ h => h) ?_
  rotate_left
  · intro W hSW
    simp only [List.getElem_toArray, List.getElem_cons_zero, List.getElem_cons_succ]
    (try dsimp only at hSW)
    go_simp
    with_reducible rfl
  (try simp only [List.getElem_toArray, List.getElem_cons_zero, List.getElem_cons_succ, Act.put, List.setIfInBounds_toArray, List.set_cons_zero, List.set_cons_succ])
  refine wpAnyJ_take 3 (v := ?_) (by first | exact hF | exact wideFn) HG.out rfl (by kernel_rfl) (by kernel_rfl) (by kernel_rfl) (by kernel_rfl) rfl ?_ (fun _ _ _ h => h) ?_
  rotate_left
  · intro W hSW
    simp only [List.getElem_toArray, List.getElem_cons_zero, List.getElem_cons_succ]
    (try dsimp only at hSW)
    go_simp
    with_reducible rfl
  (try simp only [List.getElem_toArray, List.getElem_cons_zero, List.getElem_cons_succ, Act.put, List.setIfInBounds_toArray, List.set_cons_zero, List.set_cons_succ])
  refine wpAnyJ_take 4 (v := ?_) (by first | exact hF | exact wideFn) HG.out rfl (by kernel_rfl) (by kernel_rfl) (by kernel_rfl) (by kernel_rfl) rfl ?_ (fun _ _ _ h => h) ?_
  rotate_left
  · intro W hSW
    simp only [List.getElem_toArray, List.getElem_cons_zero, List.getElem_cons_succ]
    (try dsimp only at hSW)
    go_simp
    with_reducible rfl
  (try simp only [List.getElem_toArray, List.getElem_cons_zero, List.getElem_cons_succ, Act.put, List.setIfInBounds_toArray, List.set_cons_zero, List.set_cons_succ])
  refine wpAnyJ_take 5 (v := ?_) (by first | exact hF | exact wideFn) HG.out rfl (by kernel_rfl) (by kernel_rfl) (by kernel_rfl) (by kernel_rfl) rfl ?_ (fun _ _ _ h => h) ?_
  rotate_left
  · intro W hSW
    simp only [List.getElem_toArray, List.getElem_cons_zero, List.getElem_cons_succ]
    (try dsimp only at hSW)
    go_simp
    with_reducible rfl
  (try simp only [List.getElem_toArray, List.getElem_cons_zero, List.getElem_cons_succ, Act.put, List.setIfInBounds_toArray, List.set_cons_zero, List.set_cons_succ])
  refine wpAnyJ_take 6 (v := ?_) (by first | exact hF | exact wideFn) HG.out rfl (by kernel_rfl) (by kernel_rfl) (by kernel_rfl) (by kernel_rfl) rfl ?_ (fun _ _ _ h => h) ?_
  rotate_left
  · intro W hSW
    simp only [List.getElem_toArray, List.getElem_cons_zero, List.getElem_cons_succ]
    (try dsimp only at hSW)
    go_simp
    with_reducible rfl
  (try simp only [List.getElem_toArray, List.getElem_cons_zero, List.getElem_cons_succ, Act.put, List.setIfInBounds_toArray, List.set_cons_zero, List.set_cons_succ])
  refine wpAnyJ_done (by kernel_rfl) ?_
  go_wp2_with fail
  refine wp_region_J (fun W : World => W.cell? ⟨p, 0, none⟩ = some (.int .i64 n)) (by kernel_rfl) ?_
  refine wpAnyJ_take 0 (v := ?_) (by first | exact hF | exact wideFn) HP.out rfl (by kernel_rfl) (by kernel_rfl) (by kernel_rfl) (by kernel_rfl) rfl ?_ (fun _ _ _ h => h) ?_
  rotate_left
  · intro W hSW
    simp only [List.getElem_toArray, List.getElem_cons_zero, List.getElem_cons_succ]
    (try dsimp only at hSW)
    go_simp
    with_reducible rfl
  (try simp only [List.getElem_toArray, List.getElem_cons_zero, List.getElem_cons_succ, Act.put, List.setIfInBounds_toArray, List.set_cons_zero, List.set_cons_succ])
  refine wpAnyJ_take 1 (v := ?_) (by first | exact hF | exact wideFn) HP.out rfl (by kernel_rfl) (by kernel_rfl) (by kernel_rfl) (by kernel_rfl) rfl ?_ (fun _ _ _ h => h) ?_
  rotate_left
  · intro W hSW
    simp only [List.getElem_toArray, List.getElem_cons_zero, List.getElem_cons_succ]
    (try dsimp only at hSW)
    go_simp
    with_reducible rfl
  (try simp only [List.getElem_toArray, List.getElem_cons_zero, List.getElem_cons_succ, Act.put, List.setIfInBounds_toArray, List.set_cons_zero, List.set_cons_succ])
  refine wpAnyJ_take 2 (v := ?_) (by first | exact hF | exact wideFn) HP.out rfl (by kernel_rfl) (by kernel_rfl) (by kernel_rfl) (by kernel_rfl) rfl ?_ (fun _ _ _ h => h) ?_
  rotate_left
  · intro W hSW
    simp only [List.getElem_toArray, List.getElem_cons_zero, List.getElem_cons_succ]
    (try dsimp only at hSW)
    go_simp
    with_reducible rfl
  (try simp only [List.getElem_toArray, List.getElem_cons_zero, List.getElem_cons_succ, Act.put, List.setIfInBounds_toArray, List.set_cons_zero, List.set_cons_succ])
  refine wpAnyJ_take 3 (v := ?_) (by first | exact hF | exact wideFn) HP.out rfl (by kernel_rfl) (by kernel_rfl) (by kernel_rfl) (by kernel_rfl) rfl ?_ (fun _ _ _ h => h) ?_
  rotate_left
  · intro W hSW
    simp only [List.getElem_toArray, List.getElem_cons_zero, List.getElem_cons_succ]
    (try dsimp only at hSW)
    go_simp
    with_reducible rfl
  (try simp only [List.getElem_toArray, List.getElem_cons_zero, List.getElem_cons_succ, Act.put, List.setIfInBounds_toArray, List.set_cons_zero, List.set_cons_succ])
  refine wpAnyJ_take 4 (v := ?_) (by first | exact hF | exact wideFn) HP.out rfl (by kernel_rfl) (by kernel_rfl) (by kernel_rfl) (by kernel_rfl) rfl ?_ (fun _ _ _ h => h) ?_
  rotate_left
  · intro W hSW
    simp only [List.getElem_toArray, List.getElem_cons_zero, List.getElem_cons_succ]
    (try dsimp only at hSW)
    go_simp
    with_reducible rfl
  (try simp only [List.getElem_toArray, List.getElem_cons_zero, List.getElem_cons_succ, Act.put, List.setIfInBounds_toArray, List.set_cons_zero, List.set_cons_succ])
  refine wpAnyJ_take 5 (v := ?_) (by first | exact hF | exact wideFn) HP.out rfl (by kernel_rfl) (by kernel_rfl) (by kernel_rfl) (by kernel_rfl) rfl ?_ (fun _ _ _ h => h) ?_
  rotate_left
  · intro W hSW
    simp only [List.getElem_toArray, List.getElem_cons_zero, List.getElem_cons_succ]
    (try dsimp only at hSW)
    go_simp
    with_reducible rfl
  (try simp only [List.getElem_toArray, List.getElem_cons_zero, List.getElem_cons_succ, Act.put, List.setIfInBounds_toArray, List.set_cons_zero, List.set_cons_succ])
  refine wpAnyJ_take 6 (v := ?_) (by first | exact hF | exact wideFn) HP.out rfl (by kernel_rfl) (by kernel_rfl) (by kernel_rfl) (by kernel_rfl) rfl ?_ (fun _ _ _ h => h) ?_
  rotate_left
  · intro W hSW
    simp only [List.getElem_toArray, List.getElem_cons_zero, List.getElem_cons_succ]
    (try dsimp only at hSW)
    go_simp
    with_reducible rfl
  (try simp only [List.getElem_toArray, List.getElem_cons_zero, List.getElem_cons_succ, Act.put, List.setIfInBounds_toArray, List.set_cons_zero, List.set_cons_succ])
  refine wpAnyJ_take 7 (v := ?_) (by first | exact hF | exact wideFn) HP.out rfl (by kernel_rfl) (by kernel_rfl) (by kernel_rfl) (by kernel_rfl) rfl ?_ (fun _ _ _ h => h) ?_
  rotate_left
  · intro W hSW
    simp only [List.getElem_toArray, List.getElem_cons_zero, List.getElem_cons_succ]
    (try dsimp only at hSW)
    go_simp
    with_reducible rfl
  (try simp only [List.getElem_toArray, List.getElem_cons_zero, List.getElem_cons_succ, Act.put, List.setIfInBounds_toArray, List.set_cons_zero, List.set_cons_succ])
  refine wpAnyJ_take 8 (v := ?_) (by first | exact hF | exact wideFn) HP.out rfl (by kernel_rfl) (by kernel_rfl) (by kernel_rfl) (by kernel_rfl) rfl ?_ (fun _ _ _ h => h) ?_
  rotate_left
  · intro W hSW
    simp only [List.getElem_toArray, List.getElem_cons_zero, List.getElem_cons_succ]
    (try dsimp only at hSW)
    go_simp
    with_reducible rfl
  (try simp only [List.getElem_toArray, List.getElem_cons_zero, List.getElem_cons_succ, Act.put, List.setIfInBounds_toArray, List.set_cons_zero, List.set_cons_succ])
  refine wpAnyJ_one 9 rfl (by kernel_rfl) (fun K hK => ?_)
  simp only [List.getElem_toArray, List.getElem_cons_zero, List.getElem_cons_succ]
  go_simp
  refine ⟨trivial, rfl, ?_⟩
  refine (callsIn_wide.2 HM.out).mono ?_
  rintro e w2 ⟨rfl, hb2⟩
  have hb2' : Below w.heap.size (mv w S (o + 3) (o + 4) (d - n) (e + n)) w2 := ⟨hb2.os, hb2.tape, hb2.output, hb2.size, hb2.block⟩
  dsimp only
  refine hK.out _ _ (fun _ => HQ.out _ hb2') ?_
  clear hK K
  (try simp only [List.getElem_toArray, List.getElem_cons_zero, List.getElem_cons_succ, Act.put, List.setIfInBounds_toArray, List.set_cons_zero, List.set_cons_succ])
  refine wpAnyJ_take 10 (v := ?_) (by first | exact hF | exact wideFn) (HQ.out _ hb2') rfl (by kernel_rfl) (by kernel_rfl) (by kernel_rfl) (by kernel_rfl) rfl ?_ (fun _ _ _ h => h) ?_
  rotate_left
  · intro W hSW
    simp only [List.getElem_toArray, List.getElem_cons_zero, List.getElem_cons_succ]
    (try dsimp only at hSW)
    go_simp
    with_reducible rfl
  (try simp only [List.getElem_toArray, List.getElem_cons_zero, List.getElem_cons_succ, Act.put, List.setIfInBounds_toArray, List.set_cons_zero, List.set_cons_succ])
  refine wpAnyJ_done (by kernel_rfl) ?_
  have m7 : w2.cell? ⟨S, o + 6, none⟩ = some (.int .i64 g) := (hb2'.cell (p := ⟨S, o + 6, none⟩) h0).trans (mv_cell G7.out (by omega) (by omega))
  have mp : w2.cell? ⟨p, 0, none⟩ = some (.int .i64 n) := HQ.out _ hb2'
  have mf : w2.frozen? ⟨S, o + 6, none⟩ = false := (hb2'.frozen (p := ⟨S, o + 6, none⟩) h0).trans ((mv_frozen _ _ _ _ _ _ _).trans (HF.out _))
  have ms : S < w2.heap.size := by have := hb2'.size; rw [size_mv] at this; omega
  go_wp2_with fail
  go_region
  all_goals
    go_wp2_with fail
    go_ret
    exact ⟨rfl, (setB hb2' _ _).drew⟩
end Go.Proofs.Ytlhekifmkkgjlaa
