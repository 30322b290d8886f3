/- Chapter 8, the reference: Crushed. -/
import Derived.Test.YtlhekifmkkgjlaaStacksH
import Derived.Deep.CutBlock
import Derived.Deep.DeepCutAuto
import Derived.Lib.SmallJoins
import Derived.OpenShut
import Derived.Deep.Fields
set_option linter.unusedSimpArgs false
set_option linter.unusedVariables false
set_option linter.unnecessarySimpa false
namespace Go.Proofs.Ytlhekifmkkgjlaa
open Go Go.RowKit Go.Shelf
set_option maxHeartbeats 4000000
set_option maxRecDepth 100000
def crushQ (s : Stk) (L : Nat → List (Nat × Nat)) (be : Nat → Int) (t i : Nat) : Bool := crushB ((L t).getD i (0, 1)) (cellsTo (s.cf t) i (s.cn t)).length (be t)
/-- lists of loads, one for each tier -/
structure LdsR (w : World) (n z : Nat) (v : Nat → Value) (L : Nat → List (Nat × Nat)) : Prop where
  row : Blk w z 65 (rowV n v)
  own : ∀ k, k < n → ∃ b, OwnL w b (v k) (L k)
theorem LdsR.ext {w w' : World} {n z : Nat} {v : Nat → Value} {L : Nat → List (Nat × Nat)} (h : LdsR w n z v L) (hb : Below w.heap.size w w') : LdsR w' n z v L :=
  ⟨h.row.ext hb, fun k hk => by obtain ⟨b, hb2⟩ := h.own k hk; exact ⟨b, ownBelow hb2 hb⟩⟩
theorem refCrushed_any (s : Stk) (z : Nat) (v : Nat → Value) (L : Nat → List (Nat × Nat)) (BA : Option Addr) (bc : Nat) (be : Nat → Int) (w : World) (hs : StkR w w.heap.size s) (hc : ∀ k, k < s.nt → s.cn k ≤ 144) (hL : LdsR w s.nt z v L) (hlen : ∀ k, k < s.nt → (L k).length = s.wn k) (hok : ∀ k, k < s.nt → ∀ x ∈ L k, LdOk x)
    (hbe : IR w w.heap.size BA s.nt be) (hb : ∀ k, k < s.nt → 0 ≤ be k ∧ be k ≤ 1000000) :
    Calls Try.prog 31 #[.agg #[.int .i64 s.wd, .int .i64 s.hg, .slice s.A s.nt s.cap], .slice (some ⟨z, 0, none⟩) s.nt s.nt, .slice BA s.nt bc] w fun e w' => e = .returned (brV (firstOf (crushQ s L be) (bricksTo s.wn s.nt))) ∧ Below w.heap.size w w' := by
  have m0 := hs.1
  have HSS := hide hs
  have HCC := hide hc
  have HL := hide hL
  have HLEN := hide hlen
  have HOK := hide hok
  have HBE := hide hbe
  have HBB := hide hb
  clear hs hc hL hlen hok hbe hb
  go_enter Try.func31, Try.ntmps31
  go_wp2_with fail
  have HR0 : Hid (HangInv w s ((w.alloc (.cells #[.int .i64 s.wd, .int .i64 s.hg, .slice s.A s.nt s.cap] 55)).alloc (.cells #[.int .i64 0, .int .i64 0] 59))) := hide ⟨((Below.refl _ _).alloc (Nat.le_refl _) _).alloc (by simp) _, (Blk.new w _ _).alloc _, by simpa using Blk.new (w.alloc (.cells #[.int .i64 s.wd, .int .i64 s.hg, .slice s.A s.nt s.cap] 55)) 59 #[.int .i64 0, .int .i64 0]⟩
  generalize ((w.alloc (.cells #[.int .i64 s.wd, .int .i64 s.hg, .slice s.A s.nt s.cap] 55)).alloc (.cells #[.int .i64 0, .int .i64 0] 59)) = W0 at HR0 ⊢
  go_loopw [7] (fun i wr => ∃ k : Nat, i = .int .i64 k ∧ k ≤ s.nt ∧ Hid (∀ t j : Nat, t < k → j < s.wn t → crushQ s L be t j = false) ∧ Hid (HangInv w s wr)) (fun i _ => s.nt - (intOf i).toNat)
  case atStart => exact ⟨0, rfl, by omega, hide (fun t j h => absurd h (by omega)), HR0⟩
  case round =>
    obtain ⟨k, rfl, hk, HP, HR⟩ := hrel
    obtain ⟨a0, a1, a2, a3, -, -, -⟩ := blk3 HR.out.2.1
    by_cases hlt : k < s.nt
    · obtain ⟨tb, toff, hA, htb, hu, -⟩ := P2.at_ HSS.out.2.1 hlt
      obtain ⟨l1, l2, hIc, -⟩ := HSS.out.2.2 k hlt
      unfold Stk.u at hu
      have HAA := hide hA
      have HU := hide hu
      have HIC := hide hIc
      have l3 := HCC.out k hlt
      clear hu hA hIc
      have i1 : (0 : Int) ≤ (k : Int) := by omega
      have i2 : (k : Int) < (s.nt : Int) := by omega
      rw [HAA.out] at a3
      obtain ⟨bb, hown⟩ := HL.out.own k hlt
      obtain ⟨rA, rc, hrow⟩ := OwnL.shape hown
      rw [HLEN.out k hlt] at hrow
      have HROW := hide hrow
      have HOWN := hide hown
      have HZC : Hid (∀ W, Below w.heap.size w W → W.cell? ⟨z, k, none⟩ = some (.slice rA (s.wn k) rc)) := hide (fun W hb => by rw [(HL.out.row.ext hb).cell, rowV_get _ _ hlt, HROW.out])
      obtain ⟨cb, coff, hBA, hcb, hbc⟩ := HBE.out.at_ hlt
      have HBC := hide hbc
      obtain ⟨b0, b1⟩ := HBB.out k hlt
      subst hBA
      clear hrow hown hbc
      go_wp2_with fail
      obtain ⟨wo, hwo⟩ : ∃ wo : World, wo = wr := ⟨_, rfl⟩
      subst hwo
      go_loopw [8] (fun i wr => ∃ j : Nat, i = .int .i64 j ∧ j ≤ s.wn k ∧ Hid (∀ i : Nat, i < j → crushQ s L be k i = false) ∧ Hid (HangInv w s wr)) (fun i _ => s.wn k - (intOf i).toNat)
      case atStart => exact ⟨0, rfl, by omega, hide (fun i h => absurd h (by omega)), HR⟩
      case round =>
        obtain ⟨j, rfl, hj, HQ, HR2⟩ := hrel
        have hzc := HZC.out wr HR2.out.1
        by_cases hlt2 : j < s.wn k
        · have j1 : (0 : Int) ≤ (j : Int) := by omega
          have j2 : (j : Int) < (s.wn k : Int) := by omega
          obtain ⟨g, cap, hv, -, hg, x1, x2, -, -⟩ := OwnL.at_ (ownMono (ownBelow HOWN.out HR2.out.1) (Nat.le_refl _)) (c := j) (by rw [HLEN.out k hlt]; exact hlt2)
          rw [HROW.out] at hv
          injection hv with hv1 hv2 hv3
          subst hv1
          have hxo := getD_ok (HOK.out k hlt) j
          have hcq : crushQ s L be k j = crushB ((L k).getD j (0, 1)) (cellsTo (s.cf k) j (s.cn k)).length (be k) := rfl
          have HX1 := hide x1
          have HX2 := hide x2
          clear hv2 hv3 x1 x2
          generalize (L k).getD j (0, 1) = x at HX1 HX2 hxo hcq
          have HCQ := hide hcq
          clear hcq
          go_wp2_with fail
          clear hzc
          obtain ⟨wp, hwp⟩ : ∃ wp : World, wp = wr := ⟨_, rfl⟩
          subst hwp
          go_loopw [9, 10] (fun n i wr => ∃ c : Nat, i = .int .i64 c ∧ c ≤ s.cn k ∧ n = .int .i64 ((cellsTo (s.cf k) j c).length : Nat) ∧ Hid (wr = wp)) (fun _ i _ => s.cn k - (intOf i).toNat)
          case atStart => exact ⟨0, rfl, by omega, rfl, hide rfl⟩
          case round =>
            obtain ⟨c, rfl, hc, rfl, HW⟩ := hrel
            obtain rfl := HW.out
            obtain ⟨b0', b1', b2', b3', -, -, -⟩ := blk3 HR2.out.2.1
            rw [HAA.out] at b3'
            have u1 := (HR2.out.1.cell (p := ⟨tb, toff + k * 2, none⟩) htb).trans HU.out
            by_cases hlt3 : c < s.cn k
            · obtain ⟨eb, eoff, hca, heb, hec⟩ := (HIC.out.below HR2.out.1 (Nat.le_refl _)).at_ hlt3
              rw [hca] at u1
              have q1 : (0 : Int) ≤ (c : Int) := by omega
              have q2 : (c : Int) < (s.cn k : Int) := by omega
              have hln := cellsTo_len (s.cf k) j c
              by_cases hx : s.cf k c = (j : Int)
              · have hxb : (s.cf k c == (j : Int)) = true := by simpa using hx
                have HX : Hid ((cellsTo (s.cf k) j (c + 1)).length = (cellsTo (s.cf k) j c).length + 1) := hide (by rw [cellsTo_yes hx, List.length_append]; rfl)
                clear hx
                generalize (cellsTo (s.cf k) j c).length = n at HX hln ⊢
                go_wp2_with fail
                go_roundw
                case rel => exact ⟨c + 1, by go_num, by omega, by rw [HX.out]; go_num, hide (by first | rfl | trivial)⟩
                case measure => simp [intOf]; omega
              · have hxb : (s.cf k c == (j : Int)) = false := by simpa using hx
                have HX : Hid (cellsTo (s.cf k) j (c + 1) = cellsTo (s.cf k) j c) := hide (cellsTo_no hx)
                clear hx
                generalize hn : (cellsTo (s.cf k) j c).length = n at hln ⊢
                have HN := hide hn
                clear hn
                go_wp2_with fail
                go_roundw
                case rel => exact ⟨c + 1, by go_num, by omega, by rw [HX.out, HN.out], hide (by first | rfl | trivial)⟩
                case measure => simp [intOf]; omega
            · obtain rfl : c = s.cn k := by omega
              have hln := cellsTo_len (s.cf k) j (s.cn k)
              generalize (cellsTo (s.cf k) j (s.cn k)).length = n at HCQ hln ⊢
              go_wp2_with fail
              have hHeld : wr.drew.cell? ⟨z, k, none⟩ = some (.slice (some ⟨g, 0, none⟩) (s.wn k) rc) ∧ wr.drew.cell? ⟨g, j * 2, none⟩ = some (.int .i64 x.1) ∧ wr.drew.cell? ⟨g, j * 2 + 1, none⟩ = some (.int .i64 x.2) ∧ wr.drew.cell? ⟨cb, coff + k, none⟩ = some (.int .i64 (be k)) := ⟨by have h := HZC.out wr HR2.out.1; exact h, HX1.out, HX2.out, (HR2.out.1.cell (p := ⟨cb, coff + k, none⟩) hcb).trans HBC.out⟩
              obtain ⟨o1, o2, o3⟩ := hxo
              have hm := mul_bd (a := be k) (b := (n : Int)) (M := 1000000) (N := 144) (by omega) (by omega) (by omega) (by omega)
              have hm2 := mul_bd (a := be k * (n : Int)) (b := (x.2 : Int)) (M := 1000000 * 144) (N := 1000000000) (by omega) (by omega) (by omega) (by omega)
              have hw1 : IntKind.i64.wrap (be k * (n : Int)) = be k * (n : Int) := IntWalk.i64_in _ (by omega)
              have hw2 : IntKind.i64.wrap (be k * (n : Int) * (x.2 : Int)) = be k * (n : Int) * (x.2 : Int) := IntWalk.i64_in _ (by omega)
              have HEQ : Hid (crushB x n (be k) = decide (be k * (n : Int) * (x.2 : Int) < (x.1 : Int))) := hide (by unfold crushB; rw [Int.mul_comm (n : Int) (be k)])
              clear hm hm2 o1 o2 o3 a0 a1 a2 a3
              refine wp_region_J (fun W : World => W.cell? ⟨z, k, none⟩ = some (.slice (some ⟨g, 0, none⟩) (s.wn k) rc) ∧ W.cell? ⟨g, j * 2, none⟩ = some (.int .i64 x.1) ∧ W.cell? ⟨g, j * 2 + 1, none⟩ = some (.int .i64 x.2) ∧ W.cell? ⟨cb, coff + k, none⟩ = some (.int .i64 (be k))) (by kernel_rfl) ?_
              have HR4 := hide (HR2.out.ext (Below.refl _ _).drew)
              by_cases hcr : be k * (n : Int) * (x.2 : Int) < (x.1 : Int)
              · have HX : Hid (firstOf (crushQ s L be) (bricksTo s.wn s.nt) = ((k : Int), (j : Int))) := hide (firstOf_at HP.out HQ.out hlt hlt2 (by rw [HCQ.out, HEQ.out]; exact decide_eq_true hcr))
                refine wpAnyJ_take 0 (v := ?_) (by first | exact hF | exact wideFn) hHeld rfl (by kernel_rfl) (by kernel_rfl) (by kernel_rfl) (by kernel_rfl) rfl ?_ (by first | exact fun _ _ _ h => h | exact fun _ _ _ h => hQ2 _ _ _ _ _ h) ?_
                rotate_left
                · intro W hSW
                  simp only [List.getElem_toArray, List.getElem_cons_zero, List.getElem_cons_succ]
                  (try dsimp only at hSW)
                  go_simp
                  with_reducible rfl
                (try simp only [List.getElem_toArray, List.getElem_cons_zero, List.getElem_cons_succ, Act.put, List.setIfInBounds_toArray, List.set_cons_zero, List.set_cons_succ])
                refine wpAnyJ_take 1 (v := ?_) (by first | exact hF | exact wideFn) hHeld rfl (by kernel_rfl) (by kernel_rfl) (by kernel_rfl) (by kernel_rfl) rfl ?_ (by first | exact fun _ _ _ h => h | exact fun _ _ _ h => hQ2 _ _ _ _ _ h) ?_
                rotate_left
                · intro W hSW
                  simp only [List.getElem_toArray, List.getElem_cons_zero, List.getElem_cons_succ]
                  (try dsimp only at hSW)
                  go_simp
                  with_reducible rfl
                (try simp only [List.getElem_toArray, List.getElem_cons_zero, List.getElem_cons_succ, Act.put, List.setIfInBounds_toArray, List.set_cons_zero, List.set_cons_succ])
                refine wpAnyJ_take 2 (v := ?_) (by first | exact hF | exact wideFn) hHeld rfl (by kernel_rfl) (by kernel_rfl) (by kernel_rfl) (by kernel_rfl) rfl ?_ (by first | exact fun _ _ _ h => h | exact fun _ _ _ h => hQ2 _ _ _ _ _ h) ?_
                rotate_left
                · intro W hSW
                  simp only [List.getElem_toArray, List.getElem_cons_zero, List.getElem_cons_succ]
                  (try dsimp only at hSW)
                  go_simp
                  with_reducible rfl
                (try simp only [List.getElem_toArray, List.getElem_cons_zero, List.getElem_cons_succ, Act.put, List.setIfInBounds_toArray, List.set_cons_zero, List.set_cons_succ])
                refine wpAnyJ_take 3 (v := ?_) (by first | exact hF | exact wideFn) hHeld rfl (by kernel_rfl) (by kernel_rfl) (by kernel_rfl) (by kernel_rfl) rfl ?_ (by first | exact fun _ _ _ h => h | exact fun _ _ _ h => hQ2 _ _ _ _ _ h) ?_
                rotate_left
                · intro W hSW
                  simp only [List.getElem_toArray, List.getElem_cons_zero, List.getElem_cons_succ]
                  (try dsimp only at hSW)
                  go_simp
                  with_reducible rfl
                (try simp only [List.getElem_toArray, List.getElem_cons_zero, List.getElem_cons_succ, Act.put, List.setIfInBounds_toArray, List.set_cons_zero, List.set_cons_succ])
                refine wpAnyJ_take 4 (v := ?_) (by first | exact hF | exact wideFn) hHeld rfl (by kernel_rfl) (by kernel_rfl) (by kernel_rfl) (by kernel_rfl) rfl ?_ (by first | exact fun _ _ _ h => h | exact fun _ _ _ h => hQ2 _ _ _ _ _ h) ?_
                rotate_left
                · intro W hSW
                  simp only [List.getElem_toArray, List.getElem_cons_zero, List.getElem_cons_succ]
                  (try dsimp only at hSW)
                  go_simp
                  with_reducible rfl
                (try simp only [List.getElem_toArray, List.getElem_cons_zero, List.getElem_cons_succ, Act.put, List.setIfInBounds_toArray, List.set_cons_zero, List.set_cons_succ])
                refine wpAnyJ_take 5 (v := ?_) (by first | exact hF | exact wideFn) hHeld rfl (by kernel_rfl) (by kernel_rfl) (by kernel_rfl) (by kernel_rfl) rfl ?_ (by first | exact fun _ _ _ h => h | exact fun _ _ _ h => hQ2 _ _ _ _ _ h) ?_
                rotate_left
                · intro W hSW
                  simp only [List.getElem_toArray, List.getElem_cons_zero, List.getElem_cons_succ]
                  (try dsimp only at hSW)
                  go_simp
                  with_reducible rfl
                (try simp only [List.getElem_toArray, List.getElem_cons_zero, List.getElem_cons_succ, Act.put, List.setIfInBounds_toArray, List.set_cons_zero, List.set_cons_succ])
                refine wpAnyJ_take 6 (v := ?_) (by first | exact hF | exact wideFn) hHeld rfl (by kernel_rfl) (by kernel_rfl) (by kernel_rfl) (by kernel_rfl) rfl ?_ (by first | exact fun _ _ _ h => h | exact fun _ _ _ h => hQ2 _ _ _ _ _ h) ?_
                rotate_left
                · intro W hSW
                  simp only [List.getElem_toArray, List.getElem_cons_zero, List.getElem_cons_succ]
                  (try dsimp only at hSW)
                  go_simp
                  with_reducible rfl
                (try simp only [List.getElem_toArray, List.getElem_cons_zero, List.getElem_cons_succ, Act.put, List.setIfInBounds_toArray, List.set_cons_zero, List.set_cons_succ])
                refine wpAnyJ_take 7 (v := ?_) (by first | exact hF | exact wideFn) hHeld rfl (by kernel_rfl) (by kernel_rfl) (by kernel_rfl) (by kernel_rfl) rfl ?_ (by first | exact fun _ _ _ h => h | exact fun _ _ _ h => hQ2 _ _ _ _ _ h) ?_
                rotate_left
                · intro W hSW
                  simp only [List.getElem_toArray, List.getElem_cons_zero, List.getElem_cons_succ]
                  (try dsimp only at hSW)
                  go_simp
                  with_reducible rfl
                (try simp only [List.getElem_toArray, List.getElem_cons_zero, List.getElem_cons_succ, Act.put, List.setIfInBounds_toArray, List.set_cons_zero, List.set_cons_succ])
                refine wpAnyJ_take 8 (v := ?_) (by first | exact hF | exact wideFn) hHeld rfl (by kernel_rfl) (by kernel_rfl) (by kernel_rfl) (by kernel_rfl) rfl ?_ (by first | exact fun _ _ _ h => h | exact fun _ _ _ h => hQ2 _ _ _ _ _ h) ?_
                rotate_left
                · intro W hSW
                  simp only [List.getElem_toArray, List.getElem_cons_zero, List.getElem_cons_succ]
                  (try dsimp only at hSW)
                  go_simp
                  with_reducible rfl
                (try simp only [List.getElem_toArray, List.getElem_cons_zero, List.getElem_cons_succ, Act.put, List.setIfInBounds_toArray, List.set_cons_zero, List.set_cons_succ])
                refine wpAnyJ_take 9 (v := ?_) (by first | exact hF | exact wideFn) hHeld rfl (by kernel_rfl) (by kernel_rfl) (by kernel_rfl) (by kernel_rfl) rfl ?_ (by first | exact fun _ _ _ h => h | exact fun _ _ _ h => hQ2 _ _ _ _ _ h) ?_
                rotate_left
                · intro W hSW
                  simp only [List.getElem_toArray, List.getElem_cons_zero, List.getElem_cons_succ]
                  (try dsimp only at hSW)
                  go_simp
                  with_reducible rfl
                (try simp only [List.getElem_toArray, List.getElem_cons_zero, List.getElem_cons_succ, Act.put, List.setIfInBounds_toArray, List.set_cons_zero, List.set_cons_succ])
                refine wpAnyJ_take 10 (v := ?_) (by first | exact hF | exact wideFn) hHeld rfl (by kernel_rfl) (by kernel_rfl) (by kernel_rfl) (by kernel_rfl) rfl ?_ (by first | exact fun _ _ _ h => h | exact fun _ _ _ h => hQ2 _ _ _ _ _ h) ?_
                rotate_left
                · intro W hSW
                  simp only [List.getElem_toArray, List.getElem_cons_zero, List.getElem_cons_succ]
                  (try dsimp only at hSW)
                  go_simp
                  with_reducible rfl
                (try simp only [List.getElem_toArray, List.getElem_cons_zero, List.getElem_cons_succ, Act.put, List.setIfInBounds_toArray, List.set_cons_zero, List.set_cons_succ])
                refine wpAnyJ_take 11 (v := ?_) (by first | exact hF | exact wideFn) hHeld rfl (by kernel_rfl) (by kernel_rfl) (by kernel_rfl) (by kernel_rfl) rfl ?_ (by first | exact fun _ _ _ h => h | exact fun _ _ _ h => hQ2 _ _ _ _ _ h) ?_
                rotate_left
                · intro W hSW
                  simp only [List.getElem_toArray, List.getElem_cons_zero, List.getElem_cons_succ]
                  (try dsimp only at hSW)
                  go_simp
                  with_reducible rfl
                (try simp only [List.getElem_toArray, List.getElem_cons_zero, List.getElem_cons_succ, Act.put, List.setIfInBounds_toArray, List.set_cons_zero, List.set_cons_succ])
                refine wpAnyJ_take 12 (v := ?_) (by first | exact hF | exact wideFn) hHeld rfl (by kernel_rfl) (by kernel_rfl) (by kernel_rfl) (by kernel_rfl) rfl ?_ (by first | exact fun _ _ _ h => h | exact fun _ _ _ h => hQ2 _ _ _ _ _ h) ?_
                rotate_left
                · intro W hSW
                  simp only [List.getElem_toArray, List.getElem_cons_zero, List.getElem_cons_succ]
                  (try dsimp only at hSW)
                  go_simp
                  with_reducible rfl
                (try simp only [List.getElem_toArray, List.getElem_cons_zero, List.getElem_cons_succ, Act.put, List.setIfInBounds_toArray, List.set_cons_zero, List.set_cons_succ])
                refine wpAnyJ_take 13 (v := ?_) (by first | exact hF | exact wideFn) hHeld rfl (by kernel_rfl) (by kernel_rfl) (by kernel_rfl) (by kernel_rfl) rfl ?_ (by first | exact fun _ _ _ h => h | exact fun _ _ _ h => hQ2 _ _ _ _ _ h) ?_
                rotate_left
                · intro W hSW
                  simp only [List.getElem_toArray, List.getElem_cons_zero, List.getElem_cons_succ]
                  (try dsimp only at hSW)
                  go_simp
                  with_reducible rfl
                (try simp only [List.getElem_toArray, List.getElem_cons_zero, List.getElem_cons_succ, Act.put, List.setIfInBounds_toArray, List.set_cons_zero, List.set_cons_succ])
                refine wpAnyJ_take 14 (v := ?_) (by first | exact hF | exact wideFn) hHeld rfl (by kernel_rfl) (by kernel_rfl) (by kernel_rfl) (by kernel_rfl) rfl ?_ (by first | exact fun _ _ _ h => h | exact fun _ _ _ h => hQ2 _ _ _ _ _ h) ?_
                rotate_left
                · intro W hSW
                  simp only [List.getElem_toArray, List.getElem_cons_zero, List.getElem_cons_succ]
                  (try dsimp only at hSW)
                  go_simp
                  with_reducible rfl
                (try simp only [List.getElem_toArray, List.getElem_cons_zero, List.getElem_cons_succ, Act.put, List.setIfInBounds_toArray, List.set_cons_zero, List.set_cons_succ])
                refine wpAnyJ_take 15 (v := ?_) (by first | exact hF | exact wideFn) hHeld rfl (by kernel_rfl) (by kernel_rfl) (by kernel_rfl) (by kernel_rfl) rfl ?_ (by first | exact fun _ _ _ h => h | exact fun _ _ _ h => hQ2 _ _ _ _ _ h) ?_
                rotate_left
                · intro W hSW
                  simp only [List.getElem_toArray, List.getElem_cons_zero, List.getElem_cons_succ]
                  (try dsimp only at hSW)
                  go_simp
                  with_reducible rfl
                (try simp only [List.getElem_toArray, List.getElem_cons_zero, List.getElem_cons_succ, Act.put, List.setIfInBounds_toArray, List.set_cons_zero, List.set_cons_succ])
                refine wpAnyJ_take 16 (v := ?_) (by first | exact hF | exact wideFn) hHeld rfl (by kernel_rfl) (by kernel_rfl) (by kernel_rfl) (by kernel_rfl) rfl ?_ (by first | exact fun _ _ _ h => h | exact fun _ _ _ h => hQ2 _ _ _ _ _ h) ?_
                rotate_left
                · intro W hSW
                  simp only [List.getElem_toArray, List.getElem_cons_zero, List.getElem_cons_succ]
                  (try dsimp only at hSW)
                  go_simp
                  with_reducible rfl
                (try simp only [List.getElem_toArray, List.getElem_cons_zero, List.getElem_cons_succ, Act.put, List.setIfInBounds_toArray, List.set_cons_zero, List.set_cons_succ])
                refine wpAnyJ_take 17 (v := ?_) (by first | exact hF | exact wideFn) hHeld rfl (by kernel_rfl) (by kernel_rfl) (by kernel_rfl) (by kernel_rfl) rfl ?_ (by first | exact fun _ _ _ h => h | exact fun _ _ _ h => hQ2 _ _ _ _ _ h) ?_
                rotate_left
                · intro W hSW
                  simp only [List.getElem_toArray, List.getElem_cons_zero, List.getElem_cons_succ]
                  (try dsimp only at hSW)
                  go_simp
                  with_reducible rfl
                (try simp only [List.getElem_toArray, List.getElem_cons_zero, List.getElem_cons_succ, Act.put, List.setIfInBounds_toArray, List.set_cons_zero, List.set_cons_succ])
                refine wpAnyJ_take 18 (v := ?_) (by first | exact hF | exact wideFn) hHeld rfl (by kernel_rfl) (by kernel_rfl) (by kernel_rfl) (by kernel_rfl) rfl ?_ (by first | exact fun _ _ _ h => h | exact fun _ _ _ h => hQ2 _ _ _ _ _ h) ?_
                rotate_left
                · intro W hSW
                  simp only [List.getElem_toArray, List.getElem_cons_zero, List.getElem_cons_succ]
                  (try dsimp only at hSW)
                  go_simp
                  with_reducible rfl
                (try simp only [List.getElem_toArray, List.getElem_cons_zero, List.getElem_cons_succ, Act.put, List.setIfInBounds_toArray, List.set_cons_zero, List.set_cons_succ])
                refine wpAnyJ_take 19 (v := ?_) (by first | exact hF | exact wideFn) hHeld rfl (by kernel_rfl) (by kernel_rfl) (by kernel_rfl) (by kernel_rfl) rfl ?_ (by first | exact fun _ _ _ h => h | exact fun _ _ _ h => hQ2 _ _ _ _ _ h) ?_
                rotate_left
                · intro W hSW
                  simp only [List.getElem_toArray, List.getElem_cons_zero, List.getElem_cons_succ]
                  (try dsimp only at hSW)
                  go_simp
                  with_reducible rfl
                (try simp only [List.getElem_toArray, List.getElem_cons_zero, List.getElem_cons_succ, Act.put, List.setIfInBounds_toArray, List.set_cons_zero, List.set_cons_succ])
                refine wpAnyJ_take 20 (v := ?_) (by first | exact hF | exact wideFn) hHeld rfl (by kernel_rfl) (by kernel_rfl) (by kernel_rfl) (by kernel_rfl) rfl ?_ (by first | exact fun _ _ _ h => h | exact fun _ _ _ h => hQ2 _ _ _ _ _ h) ?_
                rotate_left
                · intro W hSW
                  simp only [List.getElem_toArray, List.getElem_cons_zero, List.getElem_cons_succ]
                  (try dsimp only at hSW)
                  go_simp
                  with_reducible rfl
                (try simp only [List.getElem_toArray, List.getElem_cons_zero, List.getElem_cons_succ, Act.put, List.setIfInBounds_toArray, List.set_cons_zero, List.set_cons_succ])
                refine wpAnyJ_take 21 (v := ?_) (by first | exact hF | exact wideFn) hHeld rfl (by kernel_rfl) (by kernel_rfl) (by kernel_rfl) (by kernel_rfl) rfl ?_ (by first | exact fun _ _ _ h => h | exact fun _ _ _ h => hQ2 _ _ _ _ _ h) ?_
                rotate_left
                · intro W hSW
                  simp only [List.getElem_toArray, List.getElem_cons_zero, List.getElem_cons_succ]
                  (try dsimp only at hSW)
                  go_simp
                  with_reducible rfl
                (try simp only [List.getElem_toArray, List.getElem_cons_zero, List.getElem_cons_succ, Act.put, List.setIfInBounds_toArray, List.set_cons_zero, List.set_cons_succ])
                refine wpAnyJ_take 22 (v := ?_) (by first | exact hF | exact wideFn) hHeld rfl (by kernel_rfl) (by kernel_rfl) (by kernel_rfl) (by kernel_rfl) rfl ?_ (by first | exact fun _ _ _ h => h | exact fun _ _ _ h => hQ2 _ _ _ _ _ h) ?_
                rotate_left
                · intro W hSW
                  simp only [List.getElem_toArray, List.getElem_cons_zero, List.getElem_cons_succ]
                  (try dsimp only at hSW)
                  go_simp
                  with_reducible rfl
                (try simp only [List.getElem_toArray, List.getElem_cons_zero, List.getElem_cons_succ, Act.put, List.setIfInBounds_toArray, List.set_cons_zero, List.set_cons_succ])
                refine wpAnyJ_take 23 (v := ?_) (by first | exact hF | exact wideFn) hHeld rfl (by kernel_rfl) (by kernel_rfl) (by kernel_rfl) (by kernel_rfl) rfl ?_ (by first | exact fun _ _ _ h => h | exact fun _ _ _ h => hQ2 _ _ _ _ _ h) ?_
                rotate_left
                · intro W hSW
                  simp only [List.getElem_toArray, List.getElem_cons_zero, List.getElem_cons_succ]
                  (try dsimp only at hSW)
                  go_simp
                  with_reducible rfl
                (try simp only [List.getElem_toArray, List.getElem_cons_zero, List.getElem_cons_succ, Act.put, List.setIfInBounds_toArray, List.set_cons_zero, List.set_cons_succ])
                refine wpAnyJ_done (by kernel_rfl) ?_
                clear hHeld hw1 hw2
                generalize wr.drew = we at HR4 ⊢
                obtain ⟨c0, c1, c2, c3, c4⟩ := blk2 HR4.out.2.2
                go_wp2_with fail
                have hP := HR4.out.2.2.set2 (.int .i64 k) (.int .i64 j)
                obtain ⟨f1, f2, f3, f4, f5⟩ := blk2 hP
                refine bodyPost_ret (v := .agg #[.int .i64 k, .int .i64 j]) (by simp [results, Try.results31, go_sem, *]) rfl ⟨by rw [HX.out]; rfl, ?_⟩
                exact set2B HR4.out.1 (by omega) _ _
              · have HX : Hid (crushQ s L be k j = false) := hide (by rw [HCQ.out, HEQ.out]; exact decide_eq_false hcr)
                refine wpAnyJ_take 0 (v := ?_) (by first | exact hF | exact wideFn) hHeld rfl (by kernel_rfl) (by kernel_rfl) (by kernel_rfl) (by kernel_rfl) rfl ?_ (by first | exact fun _ _ _ h => h | exact fun _ _ _ h => hQ2 _ _ _ _ _ h) ?_
                rotate_left
                · intro W hSW
                  simp only [List.getElem_toArray, List.getElem_cons_zero, List.getElem_cons_succ]
                  (try dsimp only at hSW)
                  go_simp
                  with_reducible rfl
                (try simp only [List.getElem_toArray, List.getElem_cons_zero, List.getElem_cons_succ, Act.put, List.setIfInBounds_toArray, List.set_cons_zero, List.set_cons_succ])
                refine wpAnyJ_take 1 (v := ?_) (by first | exact hF | exact wideFn) hHeld rfl (by kernel_rfl) (by kernel_rfl) (by kernel_rfl) (by kernel_rfl) rfl ?_ (by first | exact fun _ _ _ h => h | exact fun _ _ _ h => hQ2 _ _ _ _ _ h) ?_
                rotate_left
                · intro W hSW
                  simp only [List.getElem_toArray, List.getElem_cons_zero, List.getElem_cons_succ]
                  (try dsimp only at hSW)
                  go_simp
                  with_reducible rfl
                (try simp only [List.getElem_toArray, List.getElem_cons_zero, List.getElem_cons_succ, Act.put, List.setIfInBounds_toArray, List.set_cons_zero, List.set_cons_succ])
                refine wpAnyJ_take 2 (v := ?_) (by first | exact hF | exact wideFn) hHeld rfl (by kernel_rfl) (by kernel_rfl) (by kernel_rfl) (by kernel_rfl) rfl ?_ (by first | exact fun _ _ _ h => h | exact fun _ _ _ h => hQ2 _ _ _ _ _ h) ?_
                rotate_left
                · intro W hSW
                  simp only [List.getElem_toArray, List.getElem_cons_zero, List.getElem_cons_succ]
                  (try dsimp only at hSW)
                  go_simp
                  with_reducible rfl
                (try simp only [List.getElem_toArray, List.getElem_cons_zero, List.getElem_cons_succ, Act.put, List.setIfInBounds_toArray, List.set_cons_zero, List.set_cons_succ])
                refine wpAnyJ_take 3 (v := ?_) (by first | exact hF | exact wideFn) hHeld rfl (by kernel_rfl) (by kernel_rfl) (by kernel_rfl) (by kernel_rfl) rfl ?_ (by first | exact fun _ _ _ h => h | exact fun _ _ _ h => hQ2 _ _ _ _ _ h) ?_
                rotate_left
                · intro W hSW
                  simp only [List.getElem_toArray, List.getElem_cons_zero, List.getElem_cons_succ]
                  (try dsimp only at hSW)
                  go_simp
                  with_reducible rfl
                (try simp only [List.getElem_toArray, List.getElem_cons_zero, List.getElem_cons_succ, Act.put, List.setIfInBounds_toArray, List.set_cons_zero, List.set_cons_succ])
                refine wpAnyJ_take 4 (v := ?_) (by first | exact hF | exact wideFn) hHeld rfl (by kernel_rfl) (by kernel_rfl) (by kernel_rfl) (by kernel_rfl) rfl ?_ (by first | exact fun _ _ _ h => h | exact fun _ _ _ h => hQ2 _ _ _ _ _ h) ?_
                rotate_left
                · intro W hSW
                  simp only [List.getElem_toArray, List.getElem_cons_zero, List.getElem_cons_succ]
                  (try dsimp only at hSW)
                  go_simp
                  with_reducible rfl
                (try simp only [List.getElem_toArray, List.getElem_cons_zero, List.getElem_cons_succ, Act.put, List.setIfInBounds_toArray, List.set_cons_zero, List.set_cons_succ])
                refine wpAnyJ_take 5 (v := ?_) (by first | exact hF | exact wideFn) hHeld rfl (by kernel_rfl) (by kernel_rfl) (by kernel_rfl) (by kernel_rfl) rfl ?_ (by first | exact fun _ _ _ h => h | exact fun _ _ _ h => hQ2 _ _ _ _ _ h) ?_
                rotate_left
                · intro W hSW
                  simp only [List.getElem_toArray, List.getElem_cons_zero, List.getElem_cons_succ]
                  (try dsimp only at hSW)
                  go_simp
                  with_reducible rfl
                (try simp only [List.getElem_toArray, List.getElem_cons_zero, List.getElem_cons_succ, Act.put, List.setIfInBounds_toArray, List.set_cons_zero, List.set_cons_succ])
                refine wpAnyJ_take 6 (v := ?_) (by first | exact hF | exact wideFn) hHeld rfl (by kernel_rfl) (by kernel_rfl) (by kernel_rfl) (by kernel_rfl) rfl ?_ (by first | exact fun _ _ _ h => h | exact fun _ _ _ h => hQ2 _ _ _ _ _ h) ?_
                rotate_left
                · intro W hSW
                  simp only [List.getElem_toArray, List.getElem_cons_zero, List.getElem_cons_succ]
                  (try dsimp only at hSW)
                  go_simp
                  with_reducible rfl
                (try simp only [List.getElem_toArray, List.getElem_cons_zero, List.getElem_cons_succ, Act.put, List.setIfInBounds_toArray, List.set_cons_zero, List.set_cons_succ])
                refine wpAnyJ_take 7 (v := ?_) (by first | exact hF | exact wideFn) hHeld rfl (by kernel_rfl) (by kernel_rfl) (by kernel_rfl) (by kernel_rfl) rfl ?_ (by first | exact fun _ _ _ h => h | exact fun _ _ _ h => hQ2 _ _ _ _ _ h) ?_
                rotate_left
                · intro W hSW
                  simp only [List.getElem_toArray, List.getElem_cons_zero, List.getElem_cons_succ]
                  (try dsimp only at hSW)
                  go_simp
                  with_reducible rfl
                (try simp only [List.getElem_toArray, List.getElem_cons_zero, List.getElem_cons_succ, Act.put, List.setIfInBounds_toArray, List.set_cons_zero, List.set_cons_succ])
                refine wpAnyJ_take 8 (v := ?_) (by first | exact hF | exact wideFn) hHeld rfl (by kernel_rfl) (by kernel_rfl) (by kernel_rfl) (by kernel_rfl) rfl ?_ (by first | exact fun _ _ _ h => h | exact fun _ _ _ h => hQ2 _ _ _ _ _ h) ?_
                rotate_left
                · intro W hSW
                  simp only [List.getElem_toArray, List.getElem_cons_zero, List.getElem_cons_succ]
                  (try dsimp only at hSW)
                  go_simp
                  with_reducible rfl
                (try simp only [List.getElem_toArray, List.getElem_cons_zero, List.getElem_cons_succ, Act.put, List.setIfInBounds_toArray, List.set_cons_zero, List.set_cons_succ])
                refine wpAnyJ_take 9 (v := ?_) (by first | exact hF | exact wideFn) hHeld rfl (by kernel_rfl) (by kernel_rfl) (by kernel_rfl) (by kernel_rfl) rfl ?_ (by first | exact fun _ _ _ h => h | exact fun _ _ _ h => hQ2 _ _ _ _ _ h) ?_
                rotate_left
                · intro W hSW
                  simp only [List.getElem_toArray, List.getElem_cons_zero, List.getElem_cons_succ]
                  (try dsimp only at hSW)
                  go_simp
                  with_reducible rfl
                (try simp only [List.getElem_toArray, List.getElem_cons_zero, List.getElem_cons_succ, Act.put, List.setIfInBounds_toArray, List.set_cons_zero, List.set_cons_succ])
                refine wpAnyJ_take 10 (v := ?_) (by first | exact hF | exact wideFn) hHeld rfl (by kernel_rfl) (by kernel_rfl) (by kernel_rfl) (by kernel_rfl) rfl ?_ (by first | exact fun _ _ _ h => h | exact fun _ _ _ h => hQ2 _ _ _ _ _ h) ?_
                rotate_left
                · intro W hSW
                  simp only [List.getElem_toArray, List.getElem_cons_zero, List.getElem_cons_succ]
                  (try dsimp only at hSW)
                  go_simp
                  with_reducible rfl
                (try simp only [List.getElem_toArray, List.getElem_cons_zero, List.getElem_cons_succ, Act.put, List.setIfInBounds_toArray, List.set_cons_zero, List.set_cons_succ])
                refine wpAnyJ_take 11 (v := ?_) (by first | exact hF | exact wideFn) hHeld rfl (by kernel_rfl) (by kernel_rfl) (by kernel_rfl) (by kernel_rfl) rfl ?_ (by first | exact fun _ _ _ h => h | exact fun _ _ _ h => hQ2 _ _ _ _ _ h) ?_
                rotate_left
                · intro W hSW
                  simp only [List.getElem_toArray, List.getElem_cons_zero, List.getElem_cons_succ]
                  (try dsimp only at hSW)
                  go_simp
                  with_reducible rfl
                (try simp only [List.getElem_toArray, List.getElem_cons_zero, List.getElem_cons_succ, Act.put, List.setIfInBounds_toArray, List.set_cons_zero, List.set_cons_succ])
                refine wpAnyJ_take 12 (v := ?_) (by first | exact hF | exact wideFn) hHeld rfl (by kernel_rfl) (by kernel_rfl) (by kernel_rfl) (by kernel_rfl) rfl ?_ (by first | exact fun _ _ _ h => h | exact fun _ _ _ h => hQ2 _ _ _ _ _ h) ?_
                rotate_left
                · intro W hSW
                  simp only [List.getElem_toArray, List.getElem_cons_zero, List.getElem_cons_succ]
                  (try dsimp only at hSW)
                  go_simp
                  with_reducible rfl
                (try simp only [List.getElem_toArray, List.getElem_cons_zero, List.getElem_cons_succ, Act.put, List.setIfInBounds_toArray, List.set_cons_zero, List.set_cons_succ])
                refine wpAnyJ_take 13 (v := ?_) (by first | exact hF | exact wideFn) hHeld rfl (by kernel_rfl) (by kernel_rfl) (by kernel_rfl) (by kernel_rfl) rfl ?_ (by first | exact fun _ _ _ h => h | exact fun _ _ _ h => hQ2 _ _ _ _ _ h) ?_
                rotate_left
                · intro W hSW
                  simp only [List.getElem_toArray, List.getElem_cons_zero, List.getElem_cons_succ]
                  (try dsimp only at hSW)
                  go_simp
                  with_reducible rfl
                (try simp only [List.getElem_toArray, List.getElem_cons_zero, List.getElem_cons_succ, Act.put, List.setIfInBounds_toArray, List.set_cons_zero, List.set_cons_succ])
                refine wpAnyJ_take 14 (v := ?_) (by first | exact hF | exact wideFn) hHeld rfl (by kernel_rfl) (by kernel_rfl) (by kernel_rfl) (by kernel_rfl) rfl ?_ (by first | exact fun _ _ _ h => h | exact fun _ _ _ h => hQ2 _ _ _ _ _ h) ?_
                rotate_left
                · intro W hSW
                  simp only [List.getElem_toArray, List.getElem_cons_zero, List.getElem_cons_succ]
                  (try dsimp only at hSW)
                  go_simp
                  with_reducible rfl
                (try simp only [List.getElem_toArray, List.getElem_cons_zero, List.getElem_cons_succ, Act.put, List.setIfInBounds_toArray, List.set_cons_zero, List.set_cons_succ])
                refine wpAnyJ_take 15 (v := ?_) (by first | exact hF | exact wideFn) hHeld rfl (by kernel_rfl) (by kernel_rfl) (by kernel_rfl) (by kernel_rfl) rfl ?_ (by first | exact fun _ _ _ h => h | exact fun _ _ _ h => hQ2 _ _ _ _ _ h) ?_
                rotate_left
                · intro W hSW
                  simp only [List.getElem_toArray, List.getElem_cons_zero, List.getElem_cons_succ]
                  (try dsimp only at hSW)
                  go_simp
                  with_reducible rfl
                (try simp only [List.getElem_toArray, List.getElem_cons_zero, List.getElem_cons_succ, Act.put, List.setIfInBounds_toArray, List.set_cons_zero, List.set_cons_succ])
                refine wpAnyJ_take 16 (v := ?_) (by first | exact hF | exact wideFn) hHeld rfl (by kernel_rfl) (by kernel_rfl) (by kernel_rfl) (by kernel_rfl) rfl ?_ (by first | exact fun _ _ _ h => h | exact fun _ _ _ h => hQ2 _ _ _ _ _ h) ?_
                rotate_left
                · intro W hSW
                  simp only [List.getElem_toArray, List.getElem_cons_zero, List.getElem_cons_succ]
                  (try dsimp only at hSW)
                  go_simp
                  with_reducible rfl
                (try simp only [List.getElem_toArray, List.getElem_cons_zero, List.getElem_cons_succ, Act.put, List.setIfInBounds_toArray, List.set_cons_zero, List.set_cons_succ])
                refine wpAnyJ_take 17 (v := ?_) (by first | exact hF | exact wideFn) hHeld rfl (by kernel_rfl) (by kernel_rfl) (by kernel_rfl) (by kernel_rfl) rfl ?_ (by first | exact fun _ _ _ h => h | exact fun _ _ _ h => hQ2 _ _ _ _ _ h) ?_
                rotate_left
                · intro W hSW
                  simp only [List.getElem_toArray, List.getElem_cons_zero, List.getElem_cons_succ]
                  (try dsimp only at hSW)
                  go_simp
                  with_reducible rfl
                (try simp only [List.getElem_toArray, List.getElem_cons_zero, List.getElem_cons_succ, Act.put, List.setIfInBounds_toArray, List.set_cons_zero, List.set_cons_succ])
                refine wpAnyJ_take 18 (v := ?_) (by first | exact hF | exact wideFn) hHeld rfl (by kernel_rfl) (by kernel_rfl) (by kernel_rfl) (by kernel_rfl) rfl ?_ (by first | exact fun _ _ _ h => h | exact fun _ _ _ h => hQ2 _ _ _ _ _ h) ?_
                rotate_left
                · intro W hSW
                  simp only [List.getElem_toArray, List.getElem_cons_zero, List.getElem_cons_succ]
                  (try dsimp only at hSW)
                  go_simp
                  with_reducible rfl
                (try simp only [List.getElem_toArray, List.getElem_cons_zero, List.getElem_cons_succ, Act.put, List.setIfInBounds_toArray, List.set_cons_zero, List.set_cons_succ])
                refine wpAnyJ_take 19 (v := ?_) (by first | exact hF | exact wideFn) hHeld rfl (by kernel_rfl) (by kernel_rfl) (by kernel_rfl) (by kernel_rfl) rfl ?_ (by first | exact fun _ _ _ h => h | exact fun _ _ _ h => hQ2 _ _ _ _ _ h) ?_
                rotate_left
                · intro W hSW
                  simp only [List.getElem_toArray, List.getElem_cons_zero, List.getElem_cons_succ]
                  (try dsimp only at hSW)
                  go_simp
                  with_reducible rfl
                (try simp only [List.getElem_toArray, List.getElem_cons_zero, List.getElem_cons_succ, Act.put, List.setIfInBounds_toArray, List.set_cons_zero, List.set_cons_succ])
                refine wpAnyJ_take 20 (v := ?_) (by first | exact hF | exact wideFn) hHeld rfl (by kernel_rfl) (by kernel_rfl) (by kernel_rfl) (by kernel_rfl) rfl ?_ (by first | exact fun _ _ _ h => h | exact fun _ _ _ h => hQ2 _ _ _ _ _ h) ?_
                rotate_left
                · intro W hSW
                  simp only [List.getElem_toArray, List.getElem_cons_zero, List.getElem_cons_succ]
                  (try dsimp only at hSW)
                  go_simp
                  with_reducible rfl
                (try simp only [List.getElem_toArray, List.getElem_cons_zero, List.getElem_cons_succ, Act.put, List.setIfInBounds_toArray, List.set_cons_zero, List.set_cons_succ])
                refine wpAnyJ_take 21 (v := ?_) (by first | exact hF | exact wideFn) hHeld rfl (by kernel_rfl) (by kernel_rfl) (by kernel_rfl) (by kernel_rfl) rfl ?_ (by first | exact fun _ _ _ h => h | exact fun _ _ _ h => hQ2 _ _ _ _ _ h) ?_
                rotate_left
                · intro W hSW
                  simp only [List.getElem_toArray, List.getElem_cons_zero, List.getElem_cons_succ]
                  (try dsimp only at hSW)
                  go_simp
                  with_reducible rfl
                (try simp only [List.getElem_toArray, List.getElem_cons_zero, List.getElem_cons_succ, Act.put, List.setIfInBounds_toArray, List.set_cons_zero, List.set_cons_succ])
                refine wpAnyJ_take 22 (v := ?_) (by first | exact hF | exact wideFn) hHeld rfl (by kernel_rfl) (by kernel_rfl) (by kernel_rfl) (by kernel_rfl) rfl ?_ (by first | exact fun _ _ _ h => h | exact fun _ _ _ h => hQ2 _ _ _ _ _ h) ?_
                rotate_left
                · intro W hSW
                  simp only [List.getElem_toArray, List.getElem_cons_zero, List.getElem_cons_succ]
                  (try dsimp only at hSW)
                  go_simp
                  with_reducible rfl
                (try simp only [List.getElem_toArray, List.getElem_cons_zero, List.getElem_cons_succ, Act.put, List.setIfInBounds_toArray, List.set_cons_zero, List.set_cons_succ])
                refine wpAnyJ_take 23 (v := ?_) (by first | exact hF | exact wideFn) hHeld rfl (by kernel_rfl) (by kernel_rfl) (by kernel_rfl) (by kernel_rfl) rfl ?_ (by first | exact fun _ _ _ h => h | exact fun _ _ _ h => hQ2 _ _ _ _ _ h) ?_
                rotate_left
                · intro W hSW
                  simp only [List.getElem_toArray, List.getElem_cons_zero, List.getElem_cons_succ]
                  (try dsimp only at hSW)
                  go_simp
                  with_reducible rfl
                (try simp only [List.getElem_toArray, List.getElem_cons_zero, List.getElem_cons_succ, Act.put, List.setIfInBounds_toArray, List.set_cons_zero, List.set_cons_succ])
                refine wpAnyJ_done (by kernel_rfl) ?_
                go_wp2_with fail
                go_roundw
                case rel => exact ⟨j + 1, by go_num, by omega, hide (fun i hi => by
                  by_cases e : i = j
                  · subst e; exact HX.out
                  · exact HQ.out i (by omega)), HR4⟩
                case measure => simp [intOf]; omega
        · obtain rfl : j = s.wn k := by omega
          go_wp2_with fail
          go_roundw
          case rel => exact ⟨k + 1, by go_num, by omega, hide (fun t i ht hi => by
            by_cases e : t = k
            · subst e; exact HQ.out i hi
            · exact HP.out t i (by omega) hi), HR2⟩
          case measure => simp [intOf]; omega
    · obtain rfl : k = s.nt := by omega
      have HX : Hid (firstOf (crushQ s L be) (bricksTo s.wn s.nt) = (-1, -1)) := hide (firstOf_no HP.out)
      obtain ⟨c0, c1, c2, c3, c4⟩ := blk2 HR.out.2.2
      go_wp2_with fail
      have hP := HR.out.2.2.set2 (.int .i64 (-1)) (.int .i64 (-1))
      obtain ⟨f1, f2, f3, f4, f5⟩ := blk2 hP
      refine bodyPost_ret (v := .agg #[.int .i64 (-1), .int .i64 (-1)]) (by simp [results, Try.results31, go_sem, *]) rfl ⟨by rw [HX.out]; rfl, ?_⟩
      exact set2B HR.out.1 (by omega) _ _
end Go.Proofs.Ytlhekifmkkgjlaa
/- Chapter 8's known calls: known. -/
namespace Go.Proofs.Ytlhekifmkkgjlaa
open Go Go.RowKit Go.Shelf
set_option maxHeartbeats 2000000
def KnownLoads (w : World) (e : Ending) (w' : World) : Prop := ∃ (q g0 c0 g2 c2 : Nat), e = .returned (.tuple #[.slice (some ⟨q, 0, none⟩) 2 2, .slice (some ⟨g2, 0, none⟩) 2 c2, .int .i64 0]) ∧ Below w.heap.size w w' ∧
  (q < w'.heap.size ∧ g0 < w'.heap.size ∧ g2 < w'.heap.size) ∧ w'.cell? ⟨q, 0, none⟩ = some (.slice (some ⟨g0, 0, none⟩) 2 c0) ∧ w'.cell? ⟨g0, 2, none⟩ = some (.int .i64 2) ∧ w'.cell? ⟨g0, 3, none⟩ = some (.int .i64 1) ∧
  w'.cell? ⟨g2, 2, none⟩ = some (.int .i64 7) ∧ w'.cell? ⟨g2, 3, none⟩ = some (.int .i64 1)
theorem known_loads (z0 : Nat) (w : World) (hs : StkR w w.heap.size (twoS z0)) :
    Calls Try.prog 32 #[.agg #[.int .i64 2, .int .i64 1, .slice (some ⟨z0 + 5, 0, none⟩) 2 2]] w (KnownLoads w) := by
  refine (Loads_ok (twoS z0) w hs (two_stack z0) (by rw [two_hangs]; decide) (two_loadsB z0)).mono ?_
  rintro e w' ⟨z, v, hz, rfl, hB, hrow, hown⟩
  have o0 := hown 0 (Nat.zero_le _)
  have o2 := hown 2 (Nat.le_refl _)
  rw [two_loads0] at o0
  rw [two_loads2] at o2
  obtain ⟨g0, c0, hv0, -, l0, a0, a1, -, -⟩ := o0.at_ (c := 1) (by simp)
  obtain ⟨g2, c2, hv2, -, l2, b0, b1, -, -⟩ := o2.at_ (c := 1) (by simp)
  have hr := hrow.cell 0
  rw [rowV_get _ _ (show 0 < (twoS z0).nt from Nat.zero_lt_succ 1), hv0] at hr
  refine ⟨z + 3, g0, c0, g2, c2, ?_, hB, ⟨hrow.lt, l0, l2⟩, hr, a0, a1, b0, b1⟩
  rw [show v (twoS z0).nt = v 2 from rfl, hv2]
  rfl
theorem grown_cell {w w' : World} {S b : Nat} (hg : w.grownBy w' (some S)) (hlt : b < w.heap.size) (hne : b ≠ S) (o : Nat) : w'.cell? ⟨b, o, none⟩ = w.cell? ⟨b, o, none⟩ :=
  World.cell?_of_block (hg.block b hlt (fun e => hne (by injection e)))
theorem grown_below {w w1 w2 : World} {B S : Nat} (h : Below B w w1) (hg : w1.grownBy w2 (some S)) (hB : B ≤ w1.heap.size) (hS : B ≤ S) : Below B w w2 :=
  ⟨hg.os.trans h.os, hg.tape.trans h.tape, hg.output.trans h.output, Nat.le_trans h.size hg.size, fun k hk => (hg.block k (by omega) (fun e => by injection e; omega)).trans (h.block k hk)⟩
theorem known_any (w : World) : Calls Try.prog 13 #[] w fun e w' => e = .returned (.bool true) ∧ Below w.heap.size w w' := by
  go_enter Try.func13, Try.ntmps13
  go_wp2_with fail
  refine (known_moulds _).mono ?_
  rintro e w1 ⟨rfl, hb1⟩
  have B2 := hide ((hb1.alloc hb1.size (.cells #[.int .i64 977, .int .i64 999] 25)).alloc (by have := hb1.size; simp only [World.size_alloc]; omega) (.cells #[.int .i64 500, .int .i64 1000, .int .i64 500, .int .i64 1000] 121))
  have K1 := hide ((Blk.new w1 25 #[.int .i64 977, .int .i64 999]).alloc (.cells #[.int .i64 500, .int .i64 1000, .int .i64 500, .int .i64 1000] 121))
  have KY := hide (Blk.new (w1.alloc (.cells #[.int .i64 977, .int .i64 999] 25)) 121 #[.int .i64 500, .int .i64 1000, .int .i64 500, .int .i64 1000])
  have z1 := hb1.size
  clear hb1
  go_wp2_with fail
  refine (known_need _ _ _ ?_).mono ?_
  · refine fun _ => ⟨_, 0, rfl, ?_, fun k i hk hi => ?_⟩
    · simp
    · have hc := KY.out.cell (0 + k * 2 + i)
      simp only [World.size_alloc] at hc
      rw [hc]
      rcases (by omega : k = 0 ∨ k = 1) with rfl | rfl <;> rcases (by omega : i = 0 ∨ i = 1) with rfl | rfl <;> rfl
  rintro e w2 ⟨rfl, hb2⟩
  have B3 := hide (B2.out.trans (hb2.mono B2.out.size))
  have K2 := hide (K1.out.ext hb2)
  clear hb2 B2 K1 KY
  go_wp2_with fail
  refine (two_any _).mono ?_
  rintro e w3 ⟨rfl, hs3, hb3⟩
  have B4 := hide (B3.out.trans (hb3.mono B3.out.size))
  have K3 := hide (K2.out.ext hb3)
  have HL := hide (known_loads w2.heap.size w3 hs3)
  clear hb3 B3 K2 hs3
  go_wp2_with fail
  refine HL.out.mono ?_
  rintro e w4 ⟨q, g0, c0, g2, c2, rfl, hb4, hlt, hcs⟩
  have B5 := hide (B4.out.trans (hb4.mono B4.out.size))
  have K4 := hide (K3.out.ext hb4)
  have HLT := hide hlt
  have HCS := hide hcs
  have HN := hide (new_ok (some ⟨w4.heap.size, 0, none⟩) 1 1 (fun _ => 1) 9 (w4.alloc (.cells #[.int .i64 1] 3)) (by simpa using IR.one w4 1 3) (by decide))
  clear hb4 B4 K3 hlt hcs HL
  go_wp2_with fail
  refine HN.out.mono ?_
  rintro e w5 ⟨b, S, rfl, ⟨Ab, cb, hbk, -, hst, hS0, hb0⟩, hb5⟩
  simp only [World.size_alloc] at hb5 hS0 hb0
  have hb5' : Below w4.heap.size w4 w5 := ((Below.refl w4.heap.size w4).alloc (Nat.le_refl _) (.cells #[.int .i64 1] 3)).trans (hb5.mono (by omega))
  have B6 := hide (B5.out.trans (hb5'.mono B5.out.size))
  have K5 := hide (K4.out.ext hb5')
  obtain ⟨l1, l2, l3⟩ := HLT.out
  obtain ⟨h1, h2, h3, h4, h5⟩ := HCS.out
  have x1 := (hb5'.cell (p := ⟨q, 0, none⟩) l1).trans h1
  have x2 := (hb5'.cell (p := ⟨g0, 2, none⟩) l2).trans h2
  have x3 := (hb5'.cell (p := ⟨g0, 3, none⟩) l2).trans h3
  have x4 := (hb5'.cell (p := ⟨g2, 2, none⟩) l3).trans h4
  have x5 := (hb5'.cell (p := ⟨g2, 3, none⟩) l3).trans h5
  have hK4 := K4.out.lt
  have HX := hide (And.intro x2 (And.intro x3 (And.intro x4 x5)))
  have HX1 := hide x1
  have HBK := hide hbk
  have HST := hide hst
  have z5 := hb5'.size
  have HLS := hide (And.intro l1 (And.intro l2 (And.intro l3 hS0)))
  have hB5 := B5.out.size
  clear hb5 hb5' hbk hst h1 h2 h3 h4 h5 x2 x3 x4 x5 hb0 B5 K4 HLT HCS HN
  go_wp2_with fail
  refine (known_mould b S _ _ 9 w5 HBK.out HST.out).mono ?_
  rintro e w6 ⟨rfl, hbk6, hst6, hg6⟩
  have HBK6 := hide hbk6
  have HST6 := hide hst6
  have HG6 := hide hg6
  clear hbk6 hst6 hg6 x1
  go_wp2_with fail
  refine (known_dry b S _ _ 9 w6 HBK6.out HST6.out).mono ?_
  rintro e w7 ⟨rfl, hbk7, hst7, hg7⟩
  have HBK7 := hide hbk7
  have HST7 := hide hst7
  have HG7 := hide hg7
  clear hbk7 hst7 hg7
  go_wp2_with fail
  refine (count_ok b S 1 0 _ _ 9 ⟨2, 7, 0, 0, 0, 1, 0⟩ w7 HBK7.out (by omega) (by omega) (HST7.out.2 0 (by omega)) ⟨by decide, by decide, by decide, by decide, by decide, by decide, by decide, by decide, by decide⟩).mono ?_
  rintro e w8 ⟨rfl, hb8⟩
  have z6 := HG6.out.size
  have z7 := HG7.out.size
  have far : ∀ c, c < w4.heap.size → ∀ o, w8.cell? ⟨c, o, none⟩ = w5.cell? ⟨c, o, none⟩ := fun c hc o =>
    (hb8.cell (p := ⟨c, o, none⟩) (by simp only []; omega)).trans ((grown_cell HG7.out (by omega) (by omega) o).trans (grown_cell HG6.out (by omega) (by omega) o))
  have hK := K5.out
  have y1 := (far q l1 0).trans HX1.out
  have y2 := (far g0 l2 2).trans HX.out.1
  have y3 := (far g0 l2 3).trans HX.out.2.1
  have y4 := (far g2 l3 2).trans HX.out.2.2.1
  have y5 := (far g2 l3 3).trans HX.out.2.2.2
  obtain ⟨-, k0, k1, -, -⟩ := blk2 hK
  have y6 := (far w1.heap.size hK4 0).trans k0
  have y7 := (far w1.heap.size hK4 1).trans k1
  have B9 := hide ((grown_below (grown_below B6.out HG6.out B6.out.size (by omega)) HG7.out (by omega) (by omega)).trans (hb8.mono (by omega)))
  have z8 := hb8.size
  have u1 : q < w8.heap.size := by omega
  have u2 : g0 < w8.heap.size := by omega
  have u3 : g2 < w8.heap.size := by omega
  have u4 : w1.heap.size < w8.heap.size := by omega
  unfold agg7
  dsimp only
  clear far k0 k1 hb8 hK
  go_wp2_with fail
  go_ret
  exact ⟨rfl, B9.out.alloc (by omega) _⟩
end Go.Proofs.Ytlhekifmkkgjlaa
/- The law KilnBears, its guards. -/
namespace Go.Proofs.Ytlhekifmkkgjlaa
open Go Go.RowKit Go.Shelf
set_option maxHeartbeats 4000000
set_option maxRecDepth 100000
theorem bears_guard (s : Stk) (UA : Option Addr) (un uc : Nat) (w : World) (hs : StkV w s) (hun : un ≤ maxLen) (hg : anyTo (bigB s 36) s.nt = true ∨ 8 < s.nt ∨ un ≠ s.nt) : Calls Try.prog 8 #[.agg #[.int .i64 s.wd, .int .i64 s.hg, .slice s.A s.nt s.cap], .slice UA un uc] w fun e w' => e = .returned (.bool true) ∧ Below w.heap.size w w' := by
  have HK := hide known_any
  have HS := hide hs
  have HG := hide hg
  have hn := hs.1
  unfold maxLen at hn hun
  have HB := hide ((Below.refl w.heap.size w).alloc (Nat.le_refl _) (.cells #[.int .i64 s.wd, .int .i64 s.hg, .slice s.A s.nt s.cap] 55))
  have KS := hide (Blk.new w 55 #[.int .i64 s.wd, .int .i64 s.hg, .slice s.A s.nt s.cap])
  clear hs hg
  go_enter Try.func8, Try.ntmps8
  go_wp2_with fail
  generalize (w.alloc (.cells #[.int .i64 s.wd, .int .i64 s.hg, .slice s.A s.nt s.cap] 55)) = W1 at HB KS ⊢
  obtain ⟨a0, a1, a2, a3, a4, a5, a6⟩ := blk3 KS.out
  go_loop [5] (fun i => ∃ k : Nat, i = .int .i64 k ∧ k ≤ s.nt ∧ Hid (anyTo (bigB s 36) k = false)) (fun i => s.nt - (intOf i).toNat)
  case atStart => exact ⟨0, rfl, by omega, hide rfl⟩
  case round =>
    obtain ⟨k, rfl, hk, HN⟩ := hrel
    by_cases hlt : k < s.nt
    · obtain ⟨tb, toff, hA, htb, hu, hv⟩ := P2.at_ (HS.out.2.1.below HB.out (Nat.le_refl _)) hlt
      obtain ⟨l1, l2⟩ := HS.out.2.2 k hlt
      unfold maxLen at l1 l2
      rw [hA] at a3
      have i1 : (0 : Int) ≤ (k : Int) := by omega
      have i2 : (k : Int) < (s.nt : Int) := by omega
      unfold Stk.u at hu
      unfold Stk.v at hv
      by_cases c1 : 36 < s.cn k
      · have c1' : (36 : Int) < (s.cn k : Int) := by omega
        clear c1
        go_wp2_with fail
        refine (HK.out _).mono ?_
        rintro e w2 ⟨rfl, hb2⟩
        go_wp2_with fail
        go_ret
        exact ⟨rfl, HB.out.trans (hb2.mono HB.out.size)⟩
      · have c1' : ¬ (36 : Int) < (s.cn k : Int) := by omega
        by_cases c2 : 36 < s.wn k
        · have c2' : (36 : Int) < (s.wn k : Int) := by omega
          clear c1 c2
          go_wp2_with fail
          refine (HK.out _).mono ?_
          rintro e w2 ⟨rfl, hb2⟩
          go_wp2_with fail
          go_ret
          exact ⟨rfl, HB.out.trans (hb2.mono HB.out.size)⟩
        · have c2' : ¬ (36 : Int) < (s.wn k : Int) := by omega
          have HX : Hid (bigB s 36 k = false) := hide (by unfold bigB; rw [decide_eq_false c1, decide_eq_false c2]; rfl)
          clear c1 c2
          go_wp2_with fail
          go_round
          case rel => exact ⟨k + 1, by go_num, by omega, hide (by show (anyTo (bigB s 36) k || bigB s 36 k) = false; rw [HN.out, HX.out]; rfl)⟩
          case measure => simp [intOf]; omega
    · obtain rfl : k = s.nt := by omega
      have hg2 : 8 < s.nt ∨ un ≠ s.nt := by
        rcases HG.out with h | h
        · rw [HN.out] at h; cases h
        · exact h
      by_cases c8 : 8 < s.nt
      · have c8' : (8 : Int) < (s.nt : Int) := by omega
        clear hg2 c8
        go_wp2_with fail
        refine (HK.out _).mono ?_
        rintro e w2 ⟨rfl, hb2⟩
        go_wp2_with fail
        go_ret
        exact ⟨rfl, HB.out.trans (hb2.mono HB.out.size)⟩
      · have c8' : ¬ (8 : Int) < (s.nt : Int) := by omega
        have cn' : ((un : Int) != (s.nt : Int)) = true := by simp; omega
        clear hg2 c8
        go_wp2_with fail
        refine (HK.out _).mono ?_
        rintro e w2 ⟨rfl, hb2⟩
        go_wp2_with fail
        go_ret
        exact ⟨rfl, HB.out.trans (hb2.mono HB.out.size)⟩
theorem at_same (s : Stk) (A : Option Addr) (c : Nat) (ca wa : Nat → Option Addr) (cc wc : Nat → Nat) : stackB (s.at A c ca wa cc wc) = stackB s ∧ hangF (s.at A c ca wa cc wc) = hangF s ∧ LoadsB (s.at A c ca wa cc wc) = LoadsB s ∧ LoadsL (s.at A c ca wa cc wc) = LoadsL s ∧ crushP (s.at A c ca wa cc wc) = crushP s := ⟨rfl, rfl, rfl, rfl, rfl⟩
end Go.Proofs.Ytlhekifmkkgjlaa
/- The law KilnBears: a stack that is refused. -/
namespace Go.Proofs.Ytlhekifmkkgjlaa
open Go Go.RowKit Go.Shelf
set_option maxHeartbeats 4000000
set_option maxRecDepth 100000
theorem no_big {s : Stk} {M : Nat} (hb : ∀ k, k < s.nt → s.cn k ≤ M ∧ s.wn k ≤ M) : ∀ k, k < s.nt → ¬ (M : Int) < (s.cn k : Int) ∧ ¬ (M : Int) < (s.wn k : Int) := fun k hk => by
  have := hb k hk; omega
theorem Loads_err {s : Stk} (h : ¬ (stackB s = true ∧ (hangF s).1 < 0 ∧ LoadsB s = true)) : ∃ E : Int, E ≠ 0 ∧ ∀ (s' : Stk) (W : World), StkR W W.heap.size s' → stackB s' = stackB s → hangF s' = hangF s → LoadsB s' = LoadsB s →
    Calls Try.prog 32 #[.agg #[.int .i64 s'.wd, .int .i64 s'.hg, .slice s'.A s'.nt s'.cap]] W fun e w' => e = .returned (.tuple #[.slice none 0 0, .slice none 0 0, .int .i64 E]) ∧ Below W.heap.size W w' := by
  rcases h1 : stackB s with _ | _
  · exact ⟨2, by omega, fun s' W hs e1 _ _ => Loads_arg s' W hs e1⟩
  · by_cases h2 : (hangF s).1 < 0
    · rcases h3 : LoadsB s with _ | _
      · exact ⟨10, by omega, fun s' W hs e1 e2 e3 => Loads_over s' W hs e1 (by rw [e2]; exact h2) e3⟩
      · exact absurd ⟨h1, h2, h3⟩ h
    · exact ⟨80, by omega, fun s' W hs e1 e2 _ => Loads_falls s' W hs e1 (by rw [e2]; omega)⟩
theorem bears_err (s : Stk) (UA : Option Addr) (uc : Nat) (w : World) (hs : StkR w w.heap.size s) (hnt : s.nt ≤ 8) (hb : ∀ k, k < s.nt → s.cn k ≤ 36 ∧ s.wn k ≤ 36) (h : ¬ (stackB s = true ∧ (hangF s).1 < 0 ∧ LoadsB s = true)) : Calls Try.prog 8 #[.agg #[.int .i64 s.wd, .int .i64 s.hg, .slice s.A s.nt s.cap], .slice UA s.nt uc] w fun e w' => e = .returned (.bool true) ∧ Below w.heap.size w w' := by
  obtain ⟨E, hE, hL⟩ := Loads_err h
  have hE2 : (E != 0) = true := by simpa using hE
  have HK := hide known_any
  have HL := hide hL
  have HSS := hide hs
  have HBB := hide hb
  have HB := hide ((Below.refl w.heap.size w).alloc (Nat.le_refl _) (.cells #[.int .i64 s.wd, .int .i64 s.hg, .slice s.A s.nt s.cap] 55))
  have KS := hide (Blk.new w 55 #[.int .i64 s.wd, .int .i64 s.hg, .slice s.A s.nt s.cap])
  clear hs hb hL hE h
  go_enter Try.func8, Try.ntmps8
  go_wp2_with fail
  generalize (w.alloc (.cells #[.int .i64 s.wd, .int .i64 s.hg, .slice s.A s.nt s.cap] 55)) = W1 at HB KS ⊢
  obtain ⟨a0, a1, a2, a3, a4, a5, a6⟩ := blk3 KS.out
  go_loop [5] (fun i => ∃ k : Nat, i = .int .i64 k ∧ k ≤ s.nt) (fun i => s.nt - (intOf i).toNat)
  case atStart => exact ⟨0, rfl, by omega⟩
  case round =>
    obtain ⟨k, rfl, hk⟩ := hrel
    by_cases hlt : k < s.nt
    · obtain ⟨tb, toff, hA, htb, hu, hv⟩ := P2.at_ (HSS.out.2.1.below HB.out (Nat.le_refl _)) hlt
      rw [hA] at a3
      have i1 : (0 : Int) ≤ (k : Int) := by omega
      have i2 : (k : Int) < (s.nt : Int) := by omega
      obtain ⟨b1, b2⟩ := no_big HBB.out k hlt
      obtain ⟨b3, b4⟩ := HBB.out k hlt
      have b1' : ¬ (36 : Int) < (s.cn k : Int) := b1
      have b2' : ¬ (36 : Int) < (s.wn k : Int) := b2
      unfold Stk.u at hu
      unfold Stk.v at hv
      go_wp2_with fail
      go_round
      case rel => exact ⟨k + 1, by go_num, by omega⟩
      case measure => simp [intOf]; omega
    · obtain rfl : k = s.nt := by omega
      have c8' : ¬ (8 : Int) < (s.nt : Int) := by omega
      go_wp2_with fail
      refine (own_any s _ ((HSS.out.below HB.out (Nat.le_refl _)).more HB.out.size) (by omega) (fun k hk => by have := HBB.out k hk; omega)).mono ?_
      rintro e w2 ⟨A, c, ca, wa, cc, wc, rfl, hs2, hb2⟩
      have HS2 := hide hs2
      have HB2 := hide (HB.out.trans (hb2.mono HB.out.size))
      clear hb2 hs2
      go_wp2_with fail
      refine (HL.out (s.at A c ca wa cc wc) _ HS2.out rfl rfl rfl).mono ?_
      rintro e w3 ⟨rfl, hb3⟩
      have HB3 := hide (HB2.out.trans (hb3.mono HB2.out.size))
      clear hb3
      go_wp2_with fail
      refine (HK.out _).mono ?_
      rintro e w4 ⟨rfl, hb4⟩
      go_wp2_with fail
      go_ret
      exact ⟨rfl, HB3.out.trans (hb4.mono HB3.out.size)⟩
end Go.Proofs.Ytlhekifmkkgjlaa
/- The law KilnBears: three lists that grow; the first brick from the top down. -/
namespace Go.Proofs.Ytlhekifmkkgjlaa
open Go Go.RowKit Go.Shelf
set_option maxRecDepth 100000
theorem int_read (w : World) (a : Value) (e : TypeId) : Reads (w.alloc (.cells #[a] e)) (w.heap.size + 1) 1 (some ⟨w.heap.size, 0, none⟩) 1 [a] := by
  have h : ER (w.alloc (.cells #[a] e)) (w.heap.size + 1) 1 (some ⟨w.heap.size, 0, none⟩) 1 (fun _ _ => a) := fun _ => ⟨w.heap.size, 0, rfl, by omega, fun k i hk hi => by
    obtain rfl : k = 0 := by omega
    obtain rfl : i = 0 := by omega
    obtain ⟨-, z1⟩ := bx1 (Blk.new w e #[a])
    simpa using z1⟩
  have h2 := h.reads (by omega)
  have e2 : cellsOf 1 1 (fun _ _ => a) = [a] := by simp [cellsOf]
  rw [e2] at h2
  exact h2
theorem cellsOf_snoc1 (n : Nat) (x : Nat → Int) : cellsOf 1 (n + 1) (fun i _ => Value.int .i64 (x i)) = cellsOf 1 n (fun i _ => Value.int .i64 (x i)) ++ [.int .i64 (x n)] := by
  simp [cellsOf, List.range_succ]
abbrev rowX (w : World) (base : Nat) (x : Value) (k : Nat) (f : Nat → Int) : Prop := w.ownsRow base 3 1 x k (cellsOf 1 k fun i _ => .int .i64 (f i))
theorem rowX_snoc {w : World} {base k : Nat} {x : Value} {f : Nat → Int} (h : w.ownsRow base 3 1 x (k + 1) (cellsOf 1 k (fun i _ => Value.int .i64 (f i)) ++ [.int .i64 (f k)])) : rowX w base x (k + 1) f := by
  unfold rowX; rw [cellsOf_snoc1]; exact h
/-- three lists of their own -/
structure Tri (base : Nat) (f g h : Nat → Int) (k : Nat) (x y z : Value) (wr : World) : Prop where
  rx : rowX wr base x k f
  ry : rowX wr base y k g
  rz : rowX wr base z k h
  xy : x.ownBlock ≠ y.ownBlock
  xz : x.ownBlock ≠ z.ownBlock
  yz : y.ownBlock ≠ z.ownBlock
/-- what a list that grows leaves of another one -/
theorem row_other {wr w2 : World} {base n : Nat} {x y : Value} {f : Nat → Int} {o : Obj} (hy : rowX wr base y n f) (hg : (wr.alloc o).grownBy w2 x.ownBlock) (hne : x.ownBlock ≠ y.ownBlock) : rowX w2 base y n f :=
  World.ownsRow.kept (World.ownsRow.alloc hy o) hg (.inr (Ne.symm hne))
theorem block_other {wr : World} {base n : Nat} {x x' y : Value} {f : Nat → Int} {o : Obj} (hy : rowX wr base y n f) (ho : x'.ownBlock = x.ownBlock ∨ x'.ownBlock = some (wr.alloc o).heap.size) (hne : x.ownBlock ≠ y.ownBlock) : x'.ownBlock ≠ y.ownBlock := by
  rcases ho with h | h
  · rw [h]; exact hne
  · rw [h]
    intro e
    have := (hy.lt _ e.symm).2
    simp at this
    omega
/-- all else of the law that it keeps -/
structure BR (w : World) (s : Stk) (z : Nat) (v : Nat → Value) (wr : World) : Prop where
  below : Below w.heap.size w wr
  bx : Blk wr w.heap.size 55 #[.int .i64 s.wd, .int .i64 s.hg, .slice s.A s.nt s.cap]
  row : Blk wr (z + 3) 65 (rowV s.nt v)
  own : ∀ k, k ≤ s.nt → OwnL wr z (v k) (LoadsL s k)
theorem BR.ext {w wr w' : World} {s : Stk} {z : Nat} {v : Nat → Value} (h : BR w s z v wr) (hb : Below wr.heap.size wr w') : BR w s z v w' :=
  ⟨h.below.trans (hb.mono h.below.size), h.bx.ext hb, h.row.ext hb, fun k hk => ownBelow (h.own k hk) hb⟩
theorem BR.push {w wr w2 : World} {s : Stk} {z n : Nat} {v : Nat → Value} {x : Value} {f : Nat → Int} {o : Obj} (h : BR w s z v wr) (hx : rowX wr w.heap.size x n f) (hg : (wr.alloc o).grownBy w2 x.ownBlock) : BR w s z v w2 := by
  have h2 := h.ext ((Below.refl _ wr).alloc (Nat.le_refl _) o)
  have hx2 : rowX (wr.alloc o) w.heap.size x n f := World.ownsRow.alloc hx o
  exact ⟨h2.below.grown hg h2.below.size (fun j hj => (hx2.lt j hj).1), h2.bx.grown hg (fun e => own_blk_ne hx2 h2.bx (by decide) e.symm), h2.row.grown hg (fun e => own_blk_ne hx2 h2.row (by decide) e.symm), fun k hk => World.ownsRow.kept (h2.own k hk) hg (rows_ne (h2.own k hk) hx2 (by decide))⟩
theorem BR.far {w wr : World} {s : Stk} {z g i : Nat} {v : Nat → Value} {t : TypeId} {cs : Array Value} (h : BR w s z v wr) (hB : Blk wr g t cs) (h1 : w.heap.size < g) (h2 : t ≠ 65) (h3 : t ≠ 76) (u : Value) : BR w s z v (wr.setCell ⟨g, i, none⟩ u) :=
  ⟨h.below.setCell (p := ⟨g, i, none⟩) (by show w.heap.size ≤ g; omega) _, h.bx.far (p := ⟨g, i, none⟩) (by show w.heap.size ≠ g; omega) _, h.row.far (p := ⟨g, i, none⟩) (fun e => h2 (by
    have e' : z + 3 = g := e
    subst e'
    exact Classical.byContradiction fun hne => Blk.ne_ hB h.row hne rfl)) _, fun k hk => World.ownsRow.kept (h.own k hk) (grownBy_setC wr g i u) (.inr (own_blk_ne (h.own k hk) hB (Ne.symm h3)))⟩
/-- b is the first brick of which p is true, of those behind (r, j); or there is none -/
def Best (p : Nat → Nat → Bool) (wn : Nat → Nat) (n r j : Nat) (b : Int × Int) : Prop :=
  (b = (-1, -1) ∧ ∀ t i, (r < t ∨ r = t ∧ j ≤ i) → t < n → i < wn t → p t i = false) ∨
  (∃ t i : Nat, b = ((t : Int), (i : Int)) ∧ (r < t ∨ r = t ∧ j ≤ i) ∧ t < n ∧ i < wn t ∧ p t i = true ∧ ∀ t' i', (r < t' ∨ r = t' ∧ j ≤ i') → (t' < t ∨ t' = t ∧ i' < i) → i' < wn t' → p t' i' = false)
theorem Best.no {p : Nat → Nat → Bool} {wn : Nat → Nat} {n r j : Nat} {b : Int × Int} (h : Best p wn n r (j + 1) b) (hp : p r j = false) : Best p wn n r j b := by
  rcases h with ⟨h1, h2⟩ | ⟨t, i, h1, h2, h3, h4, h5, h6⟩
  · refine .inl ⟨h1, fun t i ho ht hi => ?_⟩
    by_cases e : r = t ∧ i = j
    · obtain ⟨rfl, rfl⟩ := e; exact hp
    · exact h2 t i (by omega) ht hi
  · refine .inr ⟨t, i, h1, by omega, h3, h4, h5, fun t' i' ho hl hi => ?_⟩
    by_cases e : r = t' ∧ i' = j
    · obtain ⟨rfl, rfl⟩ := e; exact hp
    · exact h6 t' i' (by omega) hl hi
theorem Best.yes {p : Nat → Nat → Bool} {wn : Nat → Nat} {n r j : Nat} (hr : r < n) (hj : j < wn r) (hp : p r j = true) : Best p wn n r j ((r : Int), (j : Int)) :=
  .inr ⟨r, j, rfl, by omega, hr, hj, hp, fun t' i' h1 h2 _ => by omega⟩
theorem Best.down {p : Nat → Nat → Bool} {wn : Nat → Nat} {n r : Nat} {b : Int × Int} (h : Best p wn n (r + 1) 0 b) : Best p wn n r (wn r) b := by
  rcases h with ⟨h1, h2⟩ | ⟨t, i, h1, h2, h3, h4, h5, h6⟩
  · refine .inl ⟨h1, fun t i ho ht hi => h2 t i ?_ ht hi⟩
    rcases ho with ho | ⟨rfl, ho⟩
    · omega
    · omega
  · refine .inr ⟨t, i, h1, by omega, h3, h4, h5, fun t' i' ho hl hi => h6 t' i' ?_ hl hi⟩
    rcases ho with ho | ⟨rfl, ho⟩
    · omega
    · omega
theorem Best.top (p : Nat → Nat → Bool) (wn : Nat → Nat) (n : Nat) : Best p wn n n 0 (-1, -1) := .inl ⟨rfl, fun t i h1 h2 _ => by omega⟩
theorem Best.all {p : Nat → Nat → Bool} {wn : Nat → Nat} {n : Nat} {b : Int × Int} (h : Best p wn n 0 0 b) : firstOf p (bricksTo wn n) = b := by
  rcases h with ⟨rfl, h2⟩ | ⟨t, i, rfl, h2, h3, h4, h5, h6⟩
  · exact firstOf_no fun t i ht hi => h2 t i (by omega) ht hi
  · exact firstOf_at (fun t' i' h1 h2 => h6 t' i' (by omega) (.inl h1) h2) (fun i' h1 => h6 t i' (by omega) (.inr ⟨rfl, h1⟩) (by omega)) h3 h4 h5
/-- what the law asks of two first bricks: the weaker property comes no later -/
theorem first_later {p q : Nat → Nat → Bool} {wn : Nat → Nat} {n : Nat} (h : ∀ t i, t < n → i < wn t → p t i = true → q t i = true) :
    firstOf p (bricksTo wn n) = (-1, -1) ∨ ∃ a b c d : Nat, firstOf p (bricksTo wn n) = ((a : Int), (b : Int)) ∧ firstOf q (bricksTo wn n) = ((c : Int), (d : Int)) ∧ (c < a ∨ c = a ∧ d ≤ b) := by
  unfold firstOf
  cases hp : (bricksTo wn n).find? (fun x => p x.1 x.2) with
  | none => exact .inl rfl
  | some x =>
    right
    have hx := List.find?_some hp
    have hm := List.mem_of_find?_eq_some hp
    obtain ⟨h1, h2⟩ := (mem_bricksTo wn n x.1 x.2).1 hm
    have hqx := h _ _ h1 h2 hx
    cases hq : (bricksTo wn n).find? (fun x => q x.1 x.2) with
    | none =>
      have := List.find?_eq_none.1 hq x hm
      rw [hqx] at this
      simp at this
    | some y =>
      refine ⟨x.1, x.2, y.1, y.2, rfl, rfl, ?_⟩
      have hy := List.find?_some hq
      have hym := List.mem_of_find?_eq_some hq
      obtain ⟨h3, h4⟩ := (mem_bricksTo wn n y.1 y.2).1 hym
      apply Classical.byContradiction
      intro hne
      have hlt : x.1 < y.1 ∨ x.1 = y.1 ∧ x.2 < y.2 := by omega
      have hat : firstOf q (bricksTo wn n) = ((y.1 : Int), (y.2 : Int)) := by unfold firstOf; rw [hq]
      -- the first one of q is no later than x
      have key : ∀ l : List (Nat × Nat), l.Pairwise (fun a b => a.1 < b.1 ∨ a.1 = b.1 ∧ a.2 < b.2) → l.find? (fun x => q x.1 x.2) = some y → x ∈ l → y = x ∨ (y.1 < x.1 ∨ y.1 = x.1 ∧ y.2 < x.2) := by
        intro l
        induction l with
        | nil => intro _ _ hx; cases hx
        | cons a l ih =>
          intro hpw hf hx
          rw [List.pairwise_cons] at hpw
          rw [List.find?_cons] at hf
          cases hqa : q a.1 a.2 with
          | true =>
            rw [hqa] at hf
            injection hf with hf
            subst hf
            rcases List.mem_cons.1 hx with e | e
            · exact .inl e.symm
            · exact .inr (hpw.1 x e)
          | false =>
            rw [hqa] at hf
            rcases List.mem_cons.1 hx with e | e
            · subst e; rw [hqx] at hqa; cases hqa
            · exact ih hpw.2 hf e
      have hpw : (bricksTo wn n).Pairwise (fun a b => a.1 < b.1 ∨ a.1 = b.1 ∧ a.2 < b.2) := by
        clear hp hq hm hym h1 h3 hat hne hlt
        induction n with
        | zero => simp [bricksTo]
        | succ n ih =>
          rw [bricksTo_succ, List.pairwise_append]
          refine ⟨ih (fun t i ht => h t i (by omega)), ?_, fun a ha b hb => ?_⟩
          · unfold rowTo
            rw [List.pairwise_map]
            exact List.Pairwise.imp (fun hab => .inr ⟨rfl, hab⟩) List.pairwise_lt_range
          · obtain ⟨ha1, ha2⟩ := (mem_bricksTo wn n a.1 a.2).1 ha
            unfold rowTo at hb
            obtain ⟨j, hj, rfl⟩ := List.mem_map.1 hb
            exact .inl ha1
      rcases key _ hpw hq hm with e | e
      · rw [e] at hlt; omega
      · omega
theorem rowX.ir {w : World} {base n c : Nat} {A : Option Addr} {f : Nat → Int} (h : rowX w base (.slice A n c) n f) : IR w w.heap.size A n f := by
  obtain ⟨A', c', hv, hE, -⟩ := ER.of_own h (by omega)
  injection hv with h1 h2 h3
  subst h1
  exact hE
def never : Nat → Int := fun _ => 0
def ever : Nat → Int := fun _ => 1000000
theorem crush_ever {s : Stk} (h1 : stackB s = true) (h2 : (hangF s).1 < 0) (h3 : LoadsB s = true) (hnt : s.nt ≤ 8) (hb : ∀ k, k < s.nt → s.wn k ≤ 36) : firstOf (crushP s ever) (bricksTo s.wn s.nt) = (-1, -1) := by
  refine firstOf_no fun t i ht hi => ?_
  have hl := load_bd h1 h2 h3 (M := 36) (fun k hk => hb k hk) ht hi
  have hc : 0 < (cellsTo (s.cf t) i (s.cn t)).length := by
    have := rest_pos h2 t i ht hi
    have h4 : (restL s t i).length ≤ (cellsTo (s.cf t) i (s.cn t)).length := List.length_filter_le _ _
    omega
  unfold crushP crushB ever
  rw [decide_eq_false_iff_not]
  generalize (LoadsL s t).getD i (0, 1) = x at hl
  generalize (cellsTo (s.cf t) i (s.cn t)).length = n at hc
  have e1 : s.nt * (36 * 1000) * x.2 ≤ (n * 1000000) * x.2 := Nat.mul_le_mul_right _ (by omega)
  have e2 : ((n : Int) * 1000000) * (x.2 : Int) = (((n * 1000000) * x.2 : Nat) : Int) := by rw [Int.natCast_mul, Int.natCast_mul]; rfl
  rw [e2]
  omega
theorem crush_never (s : Stk) (t i : Nat) : crushP s never t i = decide (0 < ((LoadsL s t).getD i (0, 1)).1) := by
  unfold crushP crushB never
  rw [Bool.eq_iff_iff, decide_eq_true_eq, decide_eq_true_eq, Int.mul_zero, Int.zero_mul]
  omega
theorem crush_mono {s : Stk} {v : Nat → Int} (hv : ∀ k, k < s.nt → 0 ≤ v k) : ∀ t i, t < s.nt → i < s.wn t → crushP s v t i = true → crushP s never t i = true := fun t i ht _ h => by
  rw [crush_never]
  unfold crushP crushB at h
  rw [decide_eq_true_eq] at h ⊢
  generalize (LoadsL s t).getD i (0, 1) = x at h ⊢
  have h1 : 0 ≤ ((cellsTo (s.cf t) i (s.cn t)).length : Int) * v t * (x.2 : Int) := Int.mul_nonneg (Int.mul_nonneg (by omega) (hv t ht)) (by omega)
  omega
theorem wi_some {v : Nat → Int} {n : Nat} (hv : ∀ k, k < n → 0 ≤ v k ∧ v k ≤ 65535) : wiB 0 1000000 v n = true := (wiB_iff _ _ _ _).2 fun k hk => by have := hv k hk; omega
theorem wi_never (n : Nat) : wiB 0 1000000 never n = true := (wiB_iff _ _ _ _).2 fun k _ => by unfold never; omega
theorem wi_ever (n : Nat) : wiB 0 1000000 ever n = true := (wiB_iff _ _ _ _).2 fun k _ => by unfold ever; omega
/-- the boxes of the last part: what was found with strength (R1), with none (R2); no brick; the first one so far -/
structure Bx (w : World) (s : Stk) (z : Nat) (vv : Nat → Value) (g1 g2 g8 g9 : Nat) (R1 R2 b : Int × Int) (wr : World) : Prop where
  br : BR w s z vv wr
  k1 : Blk wr g1 59 #[.int .i64 R1.1, .int .i64 R1.2]
  k2 : Blk wr g2 59 #[.int .i64 R2.1, .int .i64 R2.2]
  k8 : Blk wr g8 59 #[.int .i64 (-1), .int .i64 (-1)]
  k9 : Blk wr g9 59 #[.int .i64 b.1, .int .i64 b.2]
  lo : w.heap.size < g9 ∧ g1 ≠ g9 ∧ g2 ≠ g9 ∧ g8 ≠ g9
theorem Bx.put {w wr : World} {s : Stk} {z g1 g2 g8 g9 : Nat} {vv : Nat → Value} {R1 R2 b : Int × Int} (h : Bx w s z vv g1 g2 g8 g9 R1 R2 b wr) (t j : Int) :
    Bx w s z vv g1 g2 g8 g9 R1 R2 (t, j) ((wr.setCell ⟨g9, 0, none⟩ (.int .i64 t)).setCell ⟨g9, 1, none⟩ (.int .i64 j)) := by
  obtain ⟨l1, l2, l3, l4⟩ := h.lo
  have h9 := h.k9.set_ 0 (.int .i64 t)
  exact ⟨(h.br.far h.k9 l1 (by decide) (by decide) _).far h9 l1 (by decide) (by decide) _, (h.k1.far (p := ⟨g9, 0, none⟩) l2 _).far (p := ⟨g9, 1, none⟩) l2 _, (h.k2.far (p := ⟨g9, 0, none⟩) l3 _).far (p := ⟨g9, 1, none⟩) l3 _, (h.k8.far (p := ⟨g9, 0, none⟩) l4 _).far (p := ⟨g9, 1, none⟩) l4 _, h.k9.set2 _ _, h.lo⟩
end Go.Proofs.Ytlhekifmkkgjlaa
/- The law KilnStacks: what Loads and Free answer, said in one way whatever the stack. -/
namespace Go.Proofs.Ytlhekifmkkgjlaa
open Go Go.RowKit Go.Shelf
set_option maxHeartbeats 2000000
set_option maxRecDepth 100000
def ldE (s : Stk) : Int := if stackB s = false then 2 else if 0 ≤ (hangF s).1 then 80 else if LoadsB s = false then 10 else 0
/-- a list of lists of loads that is read -/
def LsR (W : World) (z n : Nat) (L : Nat → List (Nat × Nat)) : Prop := ∃ v : Nat → Value, Blk W z 65 (rowV n v) ∧ ∀ k, k < n → ∃ n0, OwnL W n0 (v k) (L k)
theorem OwnL.ext' {W W' : World} {n0 : Nat} {v : Value} {l : List (Nat × Nat)} (h : OwnL W n0 v l) (hb : Below W.heap.size W W') : OwnL W' n0 v l := ownBelow h hb
theorem LsR.ext {W W' : World} {z n : Nat} {L : Nat → List (Nat × Nat)} (h : LsR W z n L) (hb : Below W.heap.size W W') : LsR W' z n L := by
  obtain ⟨v, h1, h2⟩ := h
  exact ⟨v, h1.ext hb, fun k hk => by obtain ⟨n0, h3⟩ := h2 k hk; exact ⟨n0, h3.ext' hb⟩⟩
/-- an own list of loads is read as pairs -/
theorem OwnL.pi {W : World} {n0 : Nat} {v : Value} {l : List (Nat × Nat)} (h : OwnL W n0 v l) : ∃ A c, v = .slice A l.length c ∧ PI W W.heap.size A l.length (fun k => ((l.getD k (0, 1)).1 : Int)) (fun k => ((l.getD k (0, 1)).2 : Int)) := by
  obtain ⟨A, c, rfl⟩ := own_shape h
  refine ⟨A, c, rfl, fun hn => ?_⟩
  obtain ⟨g, cap, hv, -, hg, -⟩ := h.at_ (c := 0) hn
  injection hv with hA
  subst hA
  refine ⟨g, 0, rfl, hg, fun k i hk hi => ?_⟩
  obtain ⟨g', cap', hv', -, -, h1, h2, -⟩ := h.at_ (c := k) hk
  injection hv' with hA'
  injection hA' with hA'
  injection hA' with hA'
  subst hA'
  rcases (by omega : i = 0 ∨ i = 1) with rfl | rfl
  · simpa using h1
  · simpa using h2
theorem LsR.at_ {W : World} {z n : Nat} {L : Nat → List (Nat × Nat)} (h : LsR W z n L) {k : Nat} (hk : k < n) :
    ∃ A c, z < W.heap.size ∧ W.cell? ⟨z, k, none⟩ = some (.slice A (L k).length c) ∧ PI W W.heap.size A (L k).length (fun i => (((L k).getD i (0, 1)).1 : Int)) (fun i => (((L k).getD i (0, 1)).2 : Int)) := by
  obtain ⟨v, h1, h2⟩ := h
  obtain ⟨n0, h3⟩ := h2 k hk
  obtain ⟨A, c, hv, hP⟩ := h3.pi
  refine ⟨A, c, h1.lt, ?_, hP⟩
  rw [h1.cell, ← hv]
  simp [rowV, hk]
/-- what Loads answers -/
def LdPost (s : Stk) (w : World) (e : Ending) (w' : World) : Prop :=
  ∃ (AA : Option Addr) (an ac : Nat) (FA : Option Addr) (fn fc : Nat), e = .returned (.tuple #[.slice AA an ac, .slice FA fn fc, .int .i64 (ldE s)]) ∧ Below w.heap.size w w' ∧ (ldE s ≠ 0 → an = 0 ∧ fn = 0) ∧
    (ldE s = 0 → ∃ z, AA = some ⟨z, 0, none⟩ ∧ an = s.nt ∧ LsR w' z s.nt (LoadsL s) ∧ fn = (LoadsL s s.nt).length ∧ PI w' w'.heap.size FA fn (fun i => (((LoadsL s s.nt).getD i (0, 1)).1 : Int)) (fun i => (((LoadsL s s.nt).getD i (0, 1)).2 : Int)))
theorem Loads_any (s : Stk) (w : World) (hs : StkR w w.heap.size s) : Calls Try.prog 32 #[.agg #[.int .i64 s.wd, .int .i64 s.hg, .slice s.A s.nt s.cap]] w (LdPost s w) := by
  rcases h1 : stackB s with _ | _
  · have hE : ldE s = 2 := by unfold ldE; rw [if_pos h1]
    refine (Loads_arg s w hs h1).mono ?_
    rintro e w' ⟨rfl, hb⟩
    exact ⟨none, 0, 0, none, 0, 0, by rw [hE], hb, fun _ => ⟨rfl, rfl⟩, fun h => by omega⟩
  · by_cases h4 : 0 ≤ (hangF s).1
    · have hE : ldE s = 80 := by unfold ldE; rw [h1, if_neg (by simp), if_pos h4]
      refine (Loads_falls s w hs h1 h4).mono ?_
      rintro e w' ⟨rfl, hb⟩
      exact ⟨none, 0, 0, none, 0, 0, by rw [hE], hb, fun _ => ⟨rfl, rfl⟩, fun h => by omega⟩
    · rcases h5 : LoadsB s with _ | _
      · have hE : ldE s = 10 := by unfold ldE; rw [h1, if_neg (by simp), if_neg h4, if_pos h5]
        refine (Loads_over s w hs h1 (by omega) h5).mono ?_
        rintro e w' ⟨rfl, hb⟩
        exact ⟨none, 0, 0, none, 0, 0, by rw [hE], hb, fun _ => ⟨rfl, rfl⟩, fun h => by omega⟩
      · have hE : ldE s = 0 := by unfold ldE; rw [h1, if_neg (by simp), if_neg h4, h5, if_neg (by simp)]
        refine (Loads_ok s w hs h1 (by omega) h5).mono ?_
        rintro e w' ⟨z, v, hz, rfl, hb, hrow, hown⟩
        obtain ⟨FA, fc, hv, hP⟩ := (hown s.nt (Nat.le_refl _)).pi
        exact ⟨_, s.nt, s.nt, FA, _, fc, by rw [hE, hv], hb, fun h => absurd hE h, fun _ => ⟨_, rfl, rfl, ⟨v, hrow, fun k hk => ⟨_, hown k (by omega)⟩⟩, rfl, hP⟩⟩
section
variable (s : Stk) (A : Option Addr) (c : Nat) (ca wa : Nat → Option Addr) (cc wc : Nat → Nat)
theorem freeTo_at (t b : Nat) : ∀ n, freeTo (s.at A c ca wa cc wc) t b n = freeTo s t b n
  | 0 => rfl
  | n + 1 => by
    show (freeTo (s.at A c ca wa cc wc) t b n && _) = (freeTo s t b n && _)
    rw [freeTo_at t b n]; rfl
theorem freeB_at : freeB (s.at A c ca wa cc wc) = freeB s := by
  funext p
  exact freeTo_at s A c ca wa cc wc p.1 p.2 _
theorem freeDn_at : ∀ r, freeDn (s.at A c ca wa cc wc) r = freeDn s r
  | 0 => rfl
  | r + 1 => by
    show freeDn (s.at A c ca wa cc wc) r ++ freeRow (s.at A c ca wa cc wc) (s.nt - 1 - r) (s.wn (s.nt - 1 - r)) = freeDn s r ++ freeRow s (s.nt - 1 - r) (s.wn (s.nt - 1 - r))
    rw [freeDn_at r]
    unfold freeRow
    rw [freeB_at]
end
/-- what Free answers, whatever the stack -/
def FrPost (s : Stk) (w : World) (e : Ending) (w' : World) : Prop :=
  ∃ (A : Option Addr) (n c : Nat), e = .returned (.tuple #[.slice A n c, .int .i64 (stkE s)]) ∧ Below w.heap.size w w' ∧ (stackB s = false → n = 0) ∧
    (stackB s = true → n = (freeDn s s.nt).length ∧ PI w' w'.heap.size A n (fun k => (rowOf (freeDn s s.nt) k).1) (fun k => (rowOf (freeDn s s.nt) k).2))
theorem Free_any (s : Stk) (w : World) (hs : StkR w w.heap.size s) : Calls Try.prog 47 #[.agg #[.int .i64 s.wd, .int .i64 s.hg, .slice s.A s.nt s.cap]] w (FrPost s w) := by
  rcases h1 : stackB s with _ | _
  · refine (Free_arg s w hs h1).mono ?_
    rintro e w' ⟨rfl, hb⟩
    exact ⟨none, 0, 0, by rw [stkE_no h1], hb, fun _ => rfl, fun h => by rw [h1] at h; cases h⟩
  · refine (Free_ok s w hs h1).mono ?_
    rintro e w' ⟨A, c, rfl, hP, hb⟩
    exact ⟨A, _, c, by rw [stkE_ok h1], hb, ⟨fun h => (by rw [h1] at h; cases h), fun _ => ⟨rfl, hP⟩⟩⟩
/-- the own list of the reference's Free, read -/
theorem OwnB.pi {W : World} {n0 : Nat} {v : Value} {l : List (Nat × Nat)} (h : OwnB W n0 v l) : ∃ A c, v = .slice A l.length c ∧ PI W W.heap.size A l.length (fun k => (rowOf l k).1) (fun k => (rowOf l k).2) := by
  rcases h.sbr with ⟨rfl, rfl⟩ | ⟨g, cap, rfl, -, hr⟩
  · exact ⟨none, 0, rfl, ER.nil _ _ _ _ _⟩
  · exact ⟨_, cap, rfl, hr.pi fun k _ => rfl⟩
theorem free_len_bd {s : Stk} (h : stackB s = true) (r : Nat) (hr : r ≤ s.nt) : (freeDn s r).length ≤ 1440 := by
  have h1 := (freeDn_asc s hr).length_eq
  rw [List.length_append] at h1
  have h2 : (freeAsc s s.nt).length ≤ 1440 := Nat.le_trans (List.length_filter_le _ _) (bricks_len_bd h)
  omega
end Go.Proofs.Ytlhekifmkkgjlaa
/- Arguments of chapter 8 opened: structs of numbers, numbers. -/
namespace Go.Proofs.Ytlhekifmkkgjlaa
open Go Go.RowKit Go.ChangeShapes Go.WideShapes Go.ChangeAt
section
variable {H : Type} {enc : TypeId × Value → H} {r : Reach} {b0 : Nat} {W : World} {v : Value} {d : DataW H} {p : List MemPlace}
set_option maxRecDepth 100000
theorem arr2 {cs : Array Value} (h : cs.size = 2) : ∃ a b, cs = #[a, b] := by
  rcases cs with ⟨l⟩
  match l, h with
  | [a, b], _ => exact ⟨a, b, rfl⟩
theorem arr4 {cs : Array Value} (h : cs.size = 4) : ∃ a b c e, cs = #[a, b, c, e] := by
  rcases cs with ⟨l⟩
  match l, h with
  | [a, b, c, e], _ => exact ⟨a, b, c, e, rfl⟩
theorem spread_cells {fuel : Nat} {a b : Value} {x : DataW H × List MemPlace} (h : DataW.trod enc Try.prog W 0 (fun _ => true) true fuel 25 [a, b] = some x) : ∃ s t, a = .int .i64 s ∧ b = .int .i64 t := by
  obtain ⟨y0, y1, n, -, -, h0, h1⟩ := trod_struct2 Try.underlying25 h
  have g0 : DataW.trod enc Try.prog W 0 (fun _ => true) true n 3 [a] = some y0 := h0
  have g1 : DataW.trod enc Try.prog W 0 (fun _ => true) true n 3 [b] = some y1 := h1
  exact ⟨_, _, (int_of_trod Try.underlying3 g0).1, (int_of_trod Try.underlying3 g1).1⟩
theorem open_spread (hval : Value.okWide Try.prog W r b0 25 v) (h : DataW.Trod enc Try.prog W 0 (fun _ => true) true 25 v d p) : ∃ a b, v = .agg #[.int .i64 a, .int .i64 b] := by
  obtain ⟨cs, rfl, hsz⟩ := okWide_struct Try.underlying25 hval
  obtain ⟨a, b, rfl⟩ := arr2 (hsz.trans (by kernel_rfl))
  obtain ⟨fuel, h⟩ := h
  obtain ⟨s, t, rfl, rfl⟩ := spread_cells (W := W) (show DataW.trod enc Try.prog W 0 (fun _ => true) true fuel 25 [a, b] = _ from h)
  exact ⟨s, t, rfl⟩
theorem open_clay (hval : Value.okWide Try.prog W r b0 40 v) (h : DataW.Trod enc Try.prog W 0 (fun _ => true) true 40 v d p) : ∃ a b c e, v = .agg #[.int .i64 a, .int .i64 b, .int .i64 c, .int .i64 e] := by
  obtain ⟨cs, rfl, hsz⟩ := okWide_struct Try.underlying40 hval
  obtain ⟨a, b, c, e, rfl⟩ := arr4 (hsz.trans (by kernel_rfl))
  obtain ⟨fuel, h⟩ := h
  obtain ⟨y0, y1, n, -, -, h0, h1⟩ := trod_struct2 Try.underlying40 h
  have g0 : DataW.trod enc Try.prog W 0 (fun _ => true) true n 25 [a, b] = some y0 := by
    have e2 : Try.prog.cellsOf 25 = 2 := by kernel_rfl
    simpa [Value.cells, e2] using h0
  have g1 : DataW.trod enc Try.prog W 0 (fun _ => true) true n 25 [c, e] = some y1 := by
    have e2 : Try.prog.cellsOf 25 = 2 := by kernel_rfl
    simpa [Value.cells, e2] using h1
  obtain ⟨s, t, rfl, rfl⟩ := spread_cells g0
  obtain ⟨s', t', rfl, rfl⟩ := spread_cells g1
  exact ⟨s, t, s', t', rfl⟩
/-- the capacity of a slice of structs of two ints -/
theorem cap_pairs {W : World} {t e : TypeId} {f0 f1 : Field} {A : Option Addr} {n c : Nat} {d : DataW H} {p : List MemPlace} (ht : Try.prog.underlying t = some (.slice e)) (he : Try.prog.underlying e = some (.struct #[f0, f1]))
    (ce : Try.prog.cellsOf e = 2) (o0 : f0.offset = 0) (o1 : f1.offset = 1) (c0 : Try.prog.cellsOf f0.type = 1) (c1 : Try.prog.cellsOf f1.type = 1)
    (h : DataW.Trod enc Try.prog W 0 (fun _ => true) true t (.slice A n c) d p) : c ≤ maxLen := by
  obtain ⟨fuel, h⟩ := h
  rw [cells_slice] at h
  rcases Deep.open_slice_pairs ht he ce o0 o1 c0 c1 h with ⟨h1, -⟩ | ⟨a, len, cap, m, n, V0, V1, D0, D1, P0, P1, h1, hb, hl, hm, hmm, hx, hc⟩
  · injection h1 with h1
    injection h1 with h1 h2 h3
    subst h3
    simp [maxLen]
  · injection h1 with h1
    injection h1 with h1 h2 h3
    omega
end
end Go.Proofs.Ytlhekifmkkgjlaa
/- Arguments of chapter 8 opened: arrays of numbers of 16 bits. -/
namespace Go.Proofs.Ytlhekifmkkgjlaa
open Go Go.RowKit Go.ChangeShapes Go.WideShapes Go.ChangeAt
section
variable {H : Type} {enc : TypeId × Value → H} {r : Reach} {b0 : Nat} {W : World} {v : Value} {d : DataW H} {p : List MemPlace}
set_option maxRecDepth 100000
/-- an array of numbers of 16 bits -/
theorem u16_of_trod {W : World} {t : TypeId} {v : Value} {x : DataW H × List MemPlace} {fuel : Nat} (ht : Try.prog.underlying t = some (.int .u16)) (h : DataW.trod enc Try.prog W 0 (fun _ => true) true fuel t [v] = some x) :
    ∃ z, v = .int .u16 z ∧ 0 ≤ z ∧ z ≤ 65535 := by
  obtain ⟨z, hz, -, hw⟩ := DataW.trod_int ht h
  injection hz with hz
  exact ⟨z, hz, by simpa [Lit.wf, IntKind.min, IntKind.max, IntKind.signed, IntKind.bits] using hw⟩
theorem array_cells {n : Nat} {t e : TypeId} (ht : Try.prog.underlying t = some (.array n e)) (hval : Value.okWide Try.prog W r b0 t v) : ∃ cs, v = .agg cs ∧ cs.size = Try.prog.cellsOf t := by
  unfold Value.okWide at hval
  cases v <;> simp_all
theorem open_u16x4 (hval : Value.okWide Try.prog W r b0 49 v) (h : DataW.Trod enc Try.prog W 0 (fun _ => true) true 49 v d p) :
    ∃ a b c e, v = .agg #[.int .u16 a, .int .u16 b, .int .u16 c, .int .u16 e] ∧ (0 ≤ a ∧ a ≤ 65535) ∧ (0 ≤ b ∧ b ≤ 65535) ∧ (0 ≤ c ∧ c ≤ 65535) ∧ (0 ≤ e ∧ e ≤ 65535) := by
  obtain ⟨cs, rfl, hsz⟩ := array_cells Try.underlying49 hval
  obtain ⟨c0, c1, c2, c3, rfl⟩ := arr4 (hsz.trans (by kernel_rfl))
  obtain ⟨fuel, h⟩ := h
  obtain ⟨xs, m, -, -, -, hl, hx⟩ := DataW.trod_array Try.underlying49 h
  have ce : Try.prog.cellsOf 48 = 1 := by kernel_rfl
  rw [ce] at hx
  have y0 := hx 0 (by omega)
  have y1 := hx 1 (by omega)
  have y2 := hx 2 (by omega)
  have y3 := hx 3 (by omega)
  rw [List.getElem?_eq_getElem (by omega)] at y0 y1 y2 y3
  obtain ⟨z0, rfl, k0⟩ := u16_of_trod Try.underlying48 (show DataW.trod enc Try.prog W 0 (fun _ => true) true m 48 [c0] = _ from y0)
  obtain ⟨z1, rfl, k1⟩ := u16_of_trod Try.underlying48 (show DataW.trod enc Try.prog W 0 (fun _ => true) true m 48 [c1] = _ from y1)
  obtain ⟨z2, rfl, k2⟩ := u16_of_trod Try.underlying48 (show DataW.trod enc Try.prog W 0 (fun _ => true) true m 48 [c2] = _ from y2)
  obtain ⟨z3, rfl, k3⟩ := u16_of_trod Try.underlying48 (show DataW.trod enc Try.prog W 0 (fun _ => true) true m 48 [c3] = _ from y3)
  exact ⟨_, _, _, _, rfl, k0, k1, k2, k3⟩
theorem open_u16x2 (hval : Value.okWide Try.prog W r b0 50 v) (h : DataW.Trod enc Try.prog W 0 (fun _ => true) true 50 v d p) :
    ∃ a b, v = .agg #[.int .u16 a, .int .u16 b] ∧ (0 ≤ a ∧ a ≤ 65535) ∧ (0 ≤ b ∧ b ≤ 65535) := by
  obtain ⟨cs, rfl, hsz⟩ := array_cells Try.underlying50 hval
  obtain ⟨c0, c1, rfl⟩ := arr2 (hsz.trans (by kernel_rfl))
  obtain ⟨fuel, h⟩ := h
  obtain ⟨xs, m, -, -, -, hl, hx⟩ := DataW.trod_array Try.underlying50 h
  have ce : Try.prog.cellsOf 48 = 1 := by kernel_rfl
  rw [ce] at hx
  have y0 := hx 0 (by omega)
  have y1 := hx 1 (by omega)
  rw [List.getElem?_eq_getElem (by omega)] at y0 y1
  obtain ⟨z0, rfl, k0⟩ := u16_of_trod Try.underlying48 (show DataW.trod enc Try.prog W 0 (fun _ => true) true m 48 [c0] = _ from y0)
  obtain ⟨z1, rfl, k1⟩ := u16_of_trod Try.underlying48 (show DataW.trod enc Try.prog W 0 (fun _ => true) true m 48 [c1] = _ from y1)
  exact ⟨_, _, rfl, k0, k1⟩
end
end Go.Proofs.Ytlhekifmkkgjlaa
/- A slice of structs whose fields are one cell each, opened; a list of yard deeds. -/
namespace Go.Proofs.Ytlhekifmkkgjlaa
open Go Go.RowKit Go.ChangeShapes Go.WideShapes Go.ChangeAt
section
variable {H : Type} {enc : TypeId × Value → H} {r : Reach} {b0 : Nat} {W : World} {v : Value} {d : DataW H} {p : List MemPlace}
set_option maxRecDepth 100000
/-- a slice of structs of one-cell fields -/
theorem open_cells {t e : TypeId} {fs : Array Field} {x : DataW H × List MemPlace} {fuel : Nat} (ht : Try.prog.underlying t = some (.slice e)) (he : Try.prog.underlying e = some (.struct fs)) (hone : Deep.oneCellFields Try.prog fs = true)
    (ce : Try.prog.cellsOf e = fs.size) (hpos : 0 < fs.size) (h : DataW.trod enc Try.prog W 0 (fun _ => true) true fuel t [v] = some x) (hlt : ∀ y ∈ x.2, y.block < W.heap.size) :
    ∃ A n c V, v = .slice A n c ∧ n ≤ maxLen ∧ n ≤ c ∧ ER W W.heap.size fs.size A n V ∧ ∀ i k f, i < n → fs[k]? = some f → ∃ m y, DataW.trod enc Try.prog W 0 (fun _ => true) true m f.type [V i k] = some y ∧ (∀ z ∈ y.2, z.block < W.heap.size) := by
  rcases Deep.open_slice ht h with ⟨h1, -⟩ | ⟨a, len, cap, m, n, D, Pl, h1, hb, hl, hm, hmm, hx, hc⟩
  · injection h1 with h1
    subst h1
    exact ⟨none, 0, 0, fun _ _ => .nilIface, rfl, by simp [maxLen], Nat.le_refl _, ER.nil _ _ _ _ _, fun i k f hi => absurd hi (by omega)⟩
  · injection h1 with h1
    subst h1
    simp only [if_true] at hmm
    subst hmm
    rw [ce] at hc hx
    obtain ⟨C, hC⟩ := Deep.choose_lt hc
    refine ⟨some a, len, m, fun i k => (C i).getD k undef, rfl, by omega, hl, fun hn => ?_, fun i k f hi hf => ?_⟩
    · obtain ⟨-, hl0, hc0⟩ := World.cells?_some (hC 0 (by omega)).1
      have h0 := hc0 0 hpos
      rw [List.getElem?_eq_getElem (by omega)] at h0
      obtain ⟨b, off, spot⟩ := a
      have hsp : spot = none := by simpa [Addr.add] using World.cell?_spot h0
      subst hsp
      refine ⟨b, off, rfl, ?_, fun k i hk hi => ?_⟩
      · have hb1 := hlt (.cell b (off + 0)) (by
          rw [hx]
          exact List.mem_append_left _ (MemPlace.mem_row.2 ⟨0, Nat.mul_pos (by omega) hpos, rfl⟩))
        exact hb1
      · obtain ⟨-, hl1, hc1⟩ := World.cells?_some (hC k (by omega)).1
        have h2 := hc1 i hi
        rw [Deep.add_add, add_lit', List.getElem?_eq_getElem (by omega)] at h2
        rw [show off + k * fs.size + i = off + (k * fs.size + i) by omega, h2]
        simp [List.getD, List.getElem?_eq_getElem (show i < (C k).length by omega)]
    · obtain ⟨-, hl1, -⟩ := World.cells?_some (hC i (by omega)).1
      obtain ⟨xs, m', -, hxy, -, hxl, hf2⟩ := DataW.trod_struct he (hC i (by omega)).2
      have hk : k < fs.size := (Array.getElem?_eq_some_iff.1 hf).1
      obtain ⟨ho, hc1⟩ := Deep.hone_of hone k f hf
      have g := hf2 k f hf
      rw [ho, hc1, Deep.take1_drop (C i) k undef (by omega), List.getElem?_eq_getElem (by omega)] at g
      refine ⟨m', _, g, fun z hz => hlt z ?_⟩
      rw [hx]
      simp only [Prod.mk.injEq] at hxy
      refine List.mem_append_right _ (List.mem_flatMap.2 ⟨i, by simp; omega, ?_⟩)
      rw [hxy.2]
      exact List.mem_flatMap.2 ⟨_, List.getElem_mem _, hz⟩
theorem u8_of_trod {W : World} {t : TypeId} {v : Value} {x : DataW H × List MemPlace} {fuel : Nat} (ht : Try.prog.underlying t = some (.int .u8)) (h : DataW.trod enc Try.prog W 0 (fun _ => true) true fuel t [v] = some x) :
    v = .int .u8 (intOf v) ∧ 0 ≤ intOf v ∧ intOf v ≤ 255 := by
  obtain ⟨z, hz, -, hw⟩ := DataW.trod_int ht h
  injection hz with hz
  subst hz
  exact ⟨rfl, by simpa [intOf, Lit.wf, IntKind.min, IntKind.max, IntKind.signed, IntKind.bits] using hw⟩
/-- a list of yard deeds -/
theorem open_yards (hval : Value.okWide Try.prog W r b0 98 v) (h : DataW.Trod enc Try.prog W 0 (fun _ => true) true 98 v d p) (hlt : ∀ x ∈ p, x.block < W.heap.size) :
    ∃ (A : Option Addr) (n c : Nat) (u : Nat → Nat → Int), v = .slice A n c ∧ n ≤ maxLen ∧ ER W W.heap.size 4 A n (fun k i => .int .u8 (u k i)) ∧ ∀ k i, k < n → i < 4 → 0 ≤ u k i ∧ u k i ≤ 255 := by
  obtain ⟨fuel, h⟩ := h
  obtain ⟨A, n, c, rfl⟩ := okWide_slice Try.underlying98 hval
  rw [cells_slice] at h
  obtain ⟨A', n', c', V, h1, hn, hnc, hE, hV⟩ := open_cells Try.underlying98 Try.underlying102 (by kernel_rfl) (by kernel_rfl) (by decide) h hlt
  injection h1 with h1 h2 h3
  subst h1 h2 h3
  have key : ∀ k i, k < n → i < 4 → V k i = .int .u8 (intOf (V k i)) ∧ 0 ≤ intOf (V k i) ∧ intOf (V k i) ≤ 255 := fun k i hk hi => by
    rcases (by omega : i = 0 ∨ i = 1 ∨ i = 2 ∨ i = 3) with rfl | rfl | rfl | rfl
    · obtain ⟨m, y, g, -⟩ := hV k 0 _ hk rfl
      exact u8_of_trod Try.underlying5 g
    · obtain ⟨m, y, g, -⟩ := hV k 1 _ hk rfl
      exact u8_of_trod Try.underlying5 g
    · obtain ⟨m, y, g, -⟩ := hV k 2 _ hk rfl
      exact u8_of_trod Try.underlying5 g
    · obtain ⟨m, y, g, -⟩ := hV k 3 _ hk rfl
      exact u8_of_trod Try.underlying5 g
  refine ⟨A, n, c, fun k i => intOf (V k i), rfl, hn, fun hn0 => ?_, fun k i hk hi => (key k i hk hi).2⟩
  obtain ⟨b, off, hA, hb, hc⟩ := hE hn0
  refine ⟨b, off, hA, hb, fun k i hk hi => ?_⟩
  have h1 := hc k i hk hi
  rw [(key k i hk hi).1] at h1
  exact h1
end
end Go.Proofs.Ytlhekifmkkgjlaa
/- Arguments of chapter 8 opened: a stack; a list of numbers of 16 bits. -/
namespace Go.Proofs.Ytlhekifmkkgjlaa
open Go Go.RowKit Go.ChangeShapes Go.WideShapes Go.ChangeAt
section
variable {H : Type} {enc : TypeId × Value → H} {r : Reach} {b0 : Nat} {W : World} {v : Value} {d : DataW H} {p : List MemPlace}
set_option maxRecDepth 100000
theorem arr3 {cs : Array Value} (h : cs.size = 3) : ∃ a b c, cs = #[a, b, c] := by
  rcases cs with ⟨l⟩
  match l, h with
  | [a, b, c], _ => exact ⟨a, b, c, rfl⟩
/-- a stack that is read, whatever its lengths -/
def StkQ (w : World) (s : Stk) : Prop := s.nt ≤ maxLen ∧ P2 w w.heap.size s.A s.nt s.u s.v ∧ ∀ k, k < s.nt → s.cn k ≤ maxLen ∧ s.wn k ≤ maxLen ∧ IR w w.heap.size (s.ca k) (s.cn k) (s.cf k) ∧ IR w w.heap.size (s.wa k) (s.wn k) (s.wf k)
theorem StkQ.loose {w : World} {s : Stk} (h : StkQ w s) : StkV w s := ⟨h.1, h.2.1, fun k hk => ⟨(h.2.2 k hk).1, (h.2.2 k hk).2.1⟩⟩
theorem StkQ.tight {w : World} {s : Stk} (h : StkQ w s) (hn : s.nt ≤ 1000000) (hm : ∀ k, k < s.nt → s.cn k ≤ 1000000 ∧ s.wn k ≤ 1000000) : StkR w w.heap.size s := ⟨hn, h.2.1, fun k hk => ⟨(hm k hk).1, (hm k hk).2, (h.2.2 k hk).2.2.1, (h.2.2 k hk).2.2.2⟩⟩
theorem open_tiers {x : DataW H × List MemPlace} {fuel : Nat} (h : DataW.trod enc Try.prog W 0 (fun _ => true) true fuel 53 [v] = some x) (hlt : ∀ y ∈ x.2, y.block < W.heap.size) (wd hg : Int) :
    ∃ s : Stk, v = .slice s.A s.nt s.cap ∧ s.wd = wd ∧ s.hg = hg ∧ StkQ W s := by
  obtain ⟨A, n, c, V, rfl, hn, hnc, hE, hV⟩ := open_cells Try.underlying53 Try.underlying72 (by kernel_rfl) (by kernel_rfl) (by decide) h hlt
  have key : ∀ i, i < n → ∃ q : (Option Addr × Nat × Nat × (Nat → Int)) × (Option Addr × Nat × Nat × (Nat → Int)), V i 0 = .slice q.1.1 q.1.2.1 q.1.2.2.1 ∧ q.1.2.1 ≤ maxLen ∧ IR W W.heap.size q.1.1 q.1.2.1 q.1.2.2.2 ∧ V i 1 = .slice q.2.1 q.2.2.1 q.2.2.2.1 ∧ q.2.2.1 ≤ maxLen ∧ IR W W.heap.size q.2.1 q.2.2.1 q.2.2.2.2 := fun i hi => by
    obtain ⟨m0, y0, g0, l0⟩ := hV i 0 _ hi rfl
    obtain ⟨m1, y1, g1, l1⟩ := hV i 1 _ hi rfl
    obtain ⟨A0, n0, c0, z0, e0, h0, -, r0, -⟩ := open_ints_c Try.underlying56 g0 l0
    obtain ⟨A1, n1, c1, z1, e1, h1, -, r1, -⟩ := open_ints_c Try.underlying56 g1 l1
    exact ⟨((A0, n0, c0, z0), (A1, n1, c1, z1)), e0, h0, r0, e1, h1, r1⟩
  obtain ⟨q, hq⟩ := Deep.choose_lt key
  refine ⟨⟨wd, hg, A, n, c, fun i => (q i).1.1, fun i => (q i).2.1, fun i => (q i).1.2.1, fun i => (q i).1.2.2.1, fun i => (q i).2.2.1, fun i => (q i).2.2.2.1, fun i => (q i).1.2.2.2, fun i => (q i).2.2.2.2⟩, rfl, rfl, rfl, hn, fun hn0 => ?_, fun k hk => ?_⟩
  · obtain ⟨b, off, hA, hb, hc⟩ := hE hn0
    refine ⟨b, off, hA, hb, fun k i hk hi => ?_⟩
    have h1 := hc k i hk hi
    obtain ⟨e0, -, -, e1, -, -⟩ := hq k hk
    rcases (by omega : i = 0 ∨ i = 1) with rfl | rfl
    · rw [e0] at h1; exact h1
    · rw [e1] at h1; exact h1
  · obtain ⟨-, l0, r0, -, l1, r1⟩ := hq k hk
    exact ⟨l0, l1, r0, r1⟩
/-- a stack -/
theorem open_stack (hval : Value.okWide Try.prog W r b0 55 v) (h : DataW.Trod enc Try.prog W 0 (fun _ => true) true 55 v d p) (hlt : ∀ x ∈ p, x.block < W.heap.size) :
    ∃ s : Stk, v = .agg #[.int .i64 s.wd, .int .i64 s.hg, .slice s.A s.nt s.cap] ∧ StkQ W s := by
  obtain ⟨cs, rfl, hsz⟩ := okWide_struct Try.underlying55 hval
  obtain ⟨a, b, c, rfl⟩ := arr3 (hsz.trans (by kernel_rfl))
  obtain ⟨fuel, h⟩ := h
  have h' : DataW.trod enc Try.prog W 0 (fun _ => true) true fuel 55 [a, b, c] = some (d, p) := h
  obtain ⟨xs, m, -, hxy, -, hxl, hf⟩ := DataW.trod_struct Try.underlying55 h'
  have g0 := hf 0 _ rfl
  have g1 := hf 1 _ rfl
  have g2 := hf 2 _ rfl
  rw [List.getElem?_eq_getElem (by rw [hxl]; decide)] at g0 g1 g2
  have k0 : DataW.trod enc Try.prog W 0 (fun _ => true) true m 3 [a] = _ := g0
  have k1 : DataW.trod enc Try.prog W 0 (fun _ => true) true m 3 [b] = _ := g1
  have k2 : DataW.trod enc Try.prog W 0 (fun _ => true) true m 53 [c] = _ := g2
  have e0 := (int_of_trod Try.underlying3 k0).1
  have e1 := (int_of_trod Try.underlying3 k1).1
  simp only [Prod.mk.injEq] at hxy
  obtain ⟨s, hv, hw, hh, hq⟩ := open_tiers k2 (fun y hy => hlt y (by
    rw [hxy.2]
    exact List.mem_flatMap.2 ⟨_, List.getElem_mem _, hy⟩)) (intOf a) (intOf b)
  exact ⟨s, by rw [hw, hh, ← hv, ← e0, ← e1], hq⟩
/-- a list of numbers of 16 bits -/
theorem open_u16s (hval : Value.okWide Try.prog W r b0 70 v) (h : DataW.Trod enc Try.prog W 0 (fun _ => true) true 70 v d p) (hlt : ∀ x ∈ p, x.block < W.heap.size) :
    ∃ (A : Option Addr) (n c : Nat) (u : Nat → Int), v = .slice A n c ∧ n ≤ maxLen ∧ ER W W.heap.size 1 A n (fun k _ => .int .u16 (u k)) ∧ ∀ k, k < n → 0 ≤ u k ∧ u k ≤ 65535 := by
  obtain ⟨fuel, h⟩ := h
  obtain ⟨A, n, c, rfl⟩ := okWide_slice Try.underlying70 hval
  rw [cells_slice] at h
  rcases Deep.open_slice1 Try.underlying70 (by kernel_rfl) h with ⟨h1, -⟩ | ⟨a, len, cap, m, n', V, D, Pl, h1, hb, hl, hm, hmm, hx, hc⟩
  · injection h1 with h1
    injection h1 with h1 h2 h3
    subst h1 h2 h3
    exact ⟨none, 0, 0, fun _ => 0, rfl, by simp [maxLen], ER.nil _ _ _ _ _, fun k hk => absurd hk (by omega)⟩
  · injection h1 with h1
    injection h1 with h1 h2 h3
    subst h1 h2 h3
    simp only [if_true] at hmm
    subst hmm
    obtain ⟨u, hu⟩ := Deep.choose_lt (fun i (hi : i < m) => u16_of_trod (W := W) Try.underlying48 (hc i hi).2)
    refine ⟨some a, n, m, u, rfl, by omega, fun hn => ?_, fun k hk => (hu k (by omega)).2⟩
    have h0 := (hc 0 (by omega)).1
    obtain ⟨b, off, spot⟩ := a
    have hsp : spot = none := by simpa [Addr.add] using World.cell?_spot h0
    subst hsp
    refine ⟨b, off, rfl, ?_, fun k i hk hi => ?_⟩
    · have hb1 := hlt (.cell b (off + 0)) (by
        rw [show p = _ from congrArg Prod.snd hx]
        exact List.mem_append_left _ (MemPlace.mem_row.2 ⟨0, by omega, rfl⟩))
      exact hb1
    · obtain rfl : i = 0 := by omega
      have h2 := (hc k (by omega)).1
      rw [add_lit', (hu k (by omega)).1] at h2
      simpa using h2
end
end Go.Proofs.Ytlhekifmkkgjlaa
/- The law KilnCrushes, walked. -/
namespace Go.Proofs.Ytlhekifmkkgjlaa
open Go Go.RowKit Go.Shelf
set_option maxHeartbeats 8000000
set_option maxRecDepth 100000
/-- the boxes of the law: the stack, and the brick that was answered -/
structure CS (w : World) (s : Stk) (g : Nat) (b : Int × Int) (W : World) : Prop where
  below : Below w.heap.size w W
  bx : Blk W w.heap.size 55 #[.int .i64 s.wd, .int .i64 s.hg, .slice s.A s.nt s.cap]
  kb : Blk W g 59 #[.int .i64 b.1, .int .i64 b.2]
theorem CS.ext {w W W' : World} {s : Stk} {g : Nat} {b : Int × Int} (h : CS w s g b W) (hb : Below W.heap.size W W') : CS w s g b W' := ⟨h.below.trans (hb.mono h.below.size), h.bx.ext hb, h.kb.ext hb⟩
theorem crushes_guard (s : Stk) (UA : Option Addr) (un uc : Nat) (w : World) (hs : StkV w s) (hun : un ≤ maxLen) (hg : largeB s = true ∨ 15 < un) : Calls Try.prog 7 #[.agg #[.int .i64 s.wd, .int .i64 s.hg, .slice s.A s.nt s.cap], .slice UA un uc] w fun e w' => e = .returned (.bool true) ∧ Below w.heap.size w w' := by
  have HK := hide known_any
  have HB := hide ((Below.refl w.heap.size w).alloc (Nat.le_refl _) (.cells #[.int .i64 s.wd, .int .i64 s.hg, .slice s.A s.nt s.cap] 55))
  have KS := hide (Blk.new w 55 #[.int .i64 s.wd, .int .i64 s.hg, .slice s.A s.nt s.cap])
  have HL := hide (large_any s (w.alloc (.cells #[.int .i64 s.wd, .int .i64 s.hg, .slice s.A s.nt s.cap] 55)) ⟨hs.1, (hs.2.1.below HB.out (Nat.le_refl _)).more HB.out.size, hs.2.2⟩)
  unfold maxLen at hun
  clear hs
  go_enter Try.func7, Try.ntmps7
  go_wp2_with fail
  generalize (w.alloc (.cells #[.int .i64 s.wd, .int .i64 s.hg, .slice s.A s.nt s.cap] 55)) = W1 at HB KS HL ⊢
  obtain ⟨a0, a1, a2, a3, a4, a5, a6⟩ := blk3 KS.out
  rcases hl : largeB s with _ | _
  · have h15 : 15 < un := by
      rcases hg with h | h
      · rw [hl] at h; cases h
      · exact h
    have h15' : (15 : Int) < (un : Int) := by omega
    rw [hl] at HL
    clear hg hl h15
    go_wp2_with (go_at_call 25; refine HL.out.mono ?_; rintro e w2 ⟨rfl, hb2⟩)
    refine (HK.out _).mono ?_
    rintro e w3 ⟨rfl, hb3⟩
    go_wp2_with fail
    go_ret
    exact ⟨rfl, (HB.out.trans (hb2.mono HB.out.size)).trans (hb3.mono (by have := HB.out.size; have := hb2.size; omega))⟩
  · rw [hl] at HL
    clear hg hl
    go_wp2_with (go_at_call 25; refine HL.out.mono ?_; rintro e w2 ⟨rfl, hb2⟩)
    refine (HK.out _).mono ?_
    rintro e w3 ⟨rfl, hb3⟩
    go_wp2_with fail
    go_ret
    exact ⟨rfl, (HB.out.trans (hb2.mono HB.out.size)).trans (hb3.mono (by have := HB.out.size; have := hb2.size; omega))⟩
theorem crushes_main (s : Stk) (UA : Option Addr) (un uc : Nat) (be : Nat → Int) (w : World) (hs : StkR w w.heap.size s) (hu : IR w w.heap.size UA un be) (hun : un ≤ 15) (hnt : s.nt ≤ 12) (hc : ∀ k, k < s.nt → s.cn k ≤ 150 ∧ s.wn k ≤ 150) (hL : largeB s = false) : Calls Try.prog 7 #[.agg #[.int .i64 s.wd, .int .i64 s.hg, .slice s.A s.nt s.cap], .slice UA un uc] w fun e w' => e = .returned (.bool true) ∧ Below w.heap.size w w' := by
  obtain ⟨i0, hi, hz0, hz1, hz2⟩ := info_parts info_int
  have HI := hide (show _ ∧ _ ∧ _ ∧ _ from ⟨hi, hz0, hz1, hz2⟩)
  have HK := hide known_any
  have HSS := hide hs
  have HUU := hide hu
  have HCC := hide hc
  have HB := hide ((Below.refl w.heap.size w).alloc (Nat.le_refl _) (.cells #[.int .i64 s.wd, .int .i64 s.hg, .slice s.A s.nt s.cap] 55))
  have KS := hide (Blk.new w 55 #[.int .i64 s.wd, .int .i64 s.hg, .slice s.A s.nt s.cap])
  have HLG := hide (large_any s (w.alloc (.cells #[.int .i64 s.wd, .int .i64 s.hg, .slice s.A s.nt s.cap] 55)) ⟨by unfold maxLen; omega, (hs.2.1.below HB.out (Nat.le_refl _)).more HB.out.size, fun k hk => ⟨by unfold maxLen; have := hc k hk; omega, by unfold maxLen; have := hc k hk; omega⟩⟩)
  rw [hL] at HLG
  obtain ⟨E, hE⟩ : ∃ E, crE s un be = E := ⟨_, rfl⟩
  obtain ⟨b, hb⟩ : ∃ b, crB s un be = b := ⟨_, rfl⟩
  have HM : Hid (∀ (BA : Option Addr) (bc : Nat) (A : Option Addr) (c : Nat) (ca wa : Nat → Option Addr) (cc wc : Nat → Nat) (W : World), StkR W W.heap.size (s.at A c ca wa cc wc) → IR W W.heap.size BA un be →
      Calls Try.prog 26 #[.agg #[.int .i64 s.wd, .int .i64 s.hg, .slice A s.nt c], .slice BA un bc] W fun e w' => e = .returned (.tuple #[.agg #[.int .i64 b.1, .int .i64 b.2], .int .i64 E]) ∧ Below W.heap.size W w') :=
    hide (fun BA bc A c ca wa cc wc W h1 h2 => by
      have h := crushed_all BA un bc be (s.at A c ca wa cc wc) W h1 h2 (by omega)
      rw [show crB (s.at A c ca wa cc wc) un be = crB s un be from rfl, show crE (s.at A c ca wa cc wc) un be = crE s un be from rfl, hE, hb] at h
      exact h)
  have HEE := hide hE
  have HBB := hide hb
  clear hi hz0 hz1 hz2 hs hu hc hL hE hb
  go_enter Try.func7, Try.ntmps7
  go_wp2_with fail
  generalize (w.alloc (.cells #[.int .i64 s.wd, .int .i64 s.hg, .slice s.A s.nt s.cap] 55)) = W1 at HB KS HLG ⊢
  obtain ⟨a0, a1, a2, a3, a4, a5, a6⟩ := blk3 KS.out
  have h15 : ¬ (15 : Int) < (un : Int) := by omega
  go_wp2_with fail
  refine HLG.out.mono ?_
  rintro e w2 ⟨rfl, hb2⟩
  have HB2 := hide (HB.out.trans (hb2.mono HB.out.size))
  have KS2 := hide (KS.out.ext hb2)
  clear hb2 a0 a1 a2 a3 a4 a5 a6
  obtain ⟨a0, a1, a2, a3, a4, a5, a6⟩ := blk3 KS2.out
  go_wp2_with fail
  refine (own_any s _ ((HSS.out.below HB2.out (Nat.le_refl _)).more HB2.out.size) (by omega) (fun k hk => by have := HCC.out k hk; omega)).mono ?_
  rintro e w3 ⟨A, c, ca, wa, cc, wc, rfl, hs3, hb3⟩
  have HB3 := hide (HB2.out.trans (hb3.mono HB2.out.size))
  have KS3 := hide (KS2.out.ext hb3)
  have HS3 := hide hs3
  have hz3 := HB3.out.size
  clear hb3 hs3 a0 a1 a2 a3 a4 a5 a6 KS2 HB2 KS HB
  go_wp2_with (at_builtin; refine wpList_append_any _ rfl (.tmp 23) (.tmp 24) 56 rfl w3.heap.size 3 i0 _ 1 8 Try.underlying56 HI.out.1 HI.out.2.1 HI.out.2.2.1 HI.out.2.2.2 rfl (by omega) (.slice (some ⟨w3.heap.size, 0, none⟩) 0 0) 0 [] rfl (own_empty w3 3 1) _ UA un uc (cellsOf 1 un fun i _ => .int .i64 (be i)) rfl (ER.reads (HUU.out.below (HB3.out.alloc HB3.out.size _) (Nat.le_refl _)) (by omega)) (ints_one _ _) (by unfold maxLen; omega) (by omega) (by simp) ?_; intro v5 w5 hx5 hg5 ho5)
  rw [Nat.zero_add, List.nil_append] at hx5
  obtain ⟨A5, c5, rfl⟩ := own_shape hx5
  have HR5 := hide (show rowI w5 w3.heap.size A5 un c5 be from hx5)
  have hb5 : Below w3.heap.size w3 w5 := ((Below.refl _ _).alloc (Nat.le_refl _) _).grown hg5 (by simp) (fun j hj => Nat.le_of_eq (by simpa [Value.ownBlock] using hj))
  have HB5 := hide (HB3.out.trans (hb5.mono HB3.out.size))
  have KS5 := hide (KS3.out.ext hb5)
  have HS5 := hide ((HS3.out.below hb5 (Nat.le_refl _)).more hb5.size)
  clear hx5 hg5 ho5 hb5 HS3 KS3 HB3
  refine (HM.out A5 c5 A c ca wa cc wc _ HS5.out HR5.out.ir).mono ?_
  rintro e w6 ⟨rfl, hb6⟩
  have HB6 := hide (HB5.out.trans (hb6.mono HB5.out.size))
  have KS6 := hide (KS5.out.ext hb6)
  clear hb6 KS5 HB5 HS5 HR5 HM
  go_upto_region 4 with fail
  have HC := hide (show CS w s w6.heap.size b (w6.alloc (.cells #[.int .i64 b.1, .int .i64 b.2] 59)) from ⟨HB6.out.alloc HB6.out.size _, KS6.out.alloc _, Blk.new w6 _ _⟩)
  clear KS6 HB6
  generalize (w6.alloc (.cells #[.int .i64 b.1, .int .i64 b.2] 59)) = W6 at HC ⊢
  generalize w6.heap.size = g at HC ⊢
  obtain ⟨a0, a1, a2, a3, a4, a5, a6⟩ := blk3 HC.out.bx
  have HRS := hide (refStack_any s W6 ((HSS.out.below HC.out.below (Nat.le_refl _)).more HC.out.below.size))
  have h15n : un ≤ 1000 := by omega
  clear h15 hun
  rcases h1 : stackB s with _ | _
  · have hEv : E = 2 ∧ b = (0, 0) := by rw [← HEE.out, ← HBB.out]; unfold crB crE; simp [h1]
    obtain ⟨rfl, rfl⟩ := hEv
    rw [h1] at HRS
    go_wp2_with fail
    refine HRS.out.mono ?_
    rintro e w7 ⟨rfl, hb7⟩
    have HC7 := hide (HC.out.ext hb7)
    clear hb7 a0 a1 a2 a3 a4 a5 a6
    obtain ⟨c0, c1, c2, -, -⟩ := blk2 HC7.out.kb
    go_upto_region 9 with fail
    go_wp2_with fail
    go_loop [7, 8] (fun q i => q = .int .i64 2 ∧ i = .int .i64 0) (fun _ _ => 0)
    case atStart => exact ⟨rfl, rfl⟩
    obtain ⟨rfl, rfl⟩ := hrel
    by_cases hz9 : (0 : Int) < (un : Int)
    · go_wp2_with fail
      refine (HK.out _).mono ?_
      rintro e w9 ⟨rfl, hb9⟩
      go_wp2_with fail
      go_ret
      exact ⟨rfl, HC7.out.below.trans (hb9.mono HC7.out.below.size)⟩
    · go_wp2_with fail
      refine (HK.out _).mono ?_
      rintro e w9 ⟨rfl, hb9⟩
      go_wp2_with fail
      go_ret
      exact ⟨rfl, HC7.out.below.trans (hb9.mono HC7.out.below.size)⟩
  · rw [h1] at HRS
    by_cases h2 : un = s.nt
    · subst h2
      have HFL := hide (fun (k : Nat) (hk : k < s.nt) => (tier_facts h1 hk).1)
      have hf144 : flr s ≤ 144 := by
        have hfl := flr_eq h1
        obtain ⟨⟨⟨d1, d2⟩, ⟨d3, d4⟩⟩, -, -⟩ := (stackB_iff s).1 h1
        have hmb := mul_bd (a := s.wd) (b := s.hg) (M := 12) (N := 12) (by omega) (by omega) (by omega) (by omega)
        omega
      have H1 := hide h1
      clear h1
      go_wp2_with fail
      refine HRS.out.mono ?_
      rintro e w7 ⟨rfl, hb7⟩
      have HC7 := hide (HC.out.ext hb7)
      clear hb7 a0 a1 a2 a3 a4 a5 a6
      obtain ⟨a0, a1, a2, a3, a4, a5, a6⟩ := blk3 HC7.out.bx
      have hnn : ((s.nt : Int) != (s.nt : Int)) = false := by simp
      go_wp2_with fail
      go_loop [7, 8] (fun q i => ∃ (k : Nat) (z : Int), q = .int .i64 z ∧ i = .int .i64 k ∧ k ≤ s.nt ∧ Hid ((z = 0 ∧ anyTo (fun k => outB 0 1000000 (be k)) k = false) ∨ (z = 3 ∧ anyTo (fun k => outB 0 1000000 (be k)) k = true))) (fun _ i => s.nt - (intOf i).toNat)
      case atStart => exact ⟨0, 0, rfl, rfl, by omega, hide (.inl ⟨rfl, rfl⟩)⟩
      case round =>
        obtain ⟨k, z, rfl, rfl, hk, HZ⟩ := hrel
        rcases HZ.out with ⟨rfl, hno⟩ | ⟨rfl, hyes⟩
        · by_cases hlt : k < s.nt
          · obtain ⟨cb, coff, hUA, hcb, hcc⟩ := (HUU.out.below HC7.out.below (Nat.le_refl _)).at_ hlt
            subst hUA
            have j1 : (0 : Int) ≤ (k : Int) := by omega
            have j2 : (k : Int) < (s.nt : Int) := by omega
            have HNO := hide hno
            clear hno HZ
            by_cases b1 : be k < 0
            · have HY : Hid (anyTo (fun k => outB 0 1000000 (be k)) (k + 1) = true) := hide (by show (anyTo _ k || outB 0 1000000 (be k)) = true; unfold outB; rw [decide_eq_true b1]; simp)
              go_wp2_with fail
              go_round
              case rel => exact ⟨k + 1, 3, rfl, by go_num, by omega, hide (.inr ⟨rfl, HY.out⟩)⟩
              case measure => simp [intOf]; omega
            · by_cases b2 : 1000000 < be k
              · have HY : Hid (anyTo (fun k => outB 0 1000000 (be k)) (k + 1) = true) := hide (by show (anyTo _ k || outB 0 1000000 (be k)) = true; unfold outB; rw [decide_eq_true b2]; simp)
                go_wp2_with fail
                go_round
                case rel => exact ⟨k + 1, 3, rfl, by go_num, by omega, hide (.inr ⟨rfl, HY.out⟩)⟩
                case measure => simp [intOf]; omega
              · have HY : Hid (anyTo (fun k => outB 0 1000000 (be k)) (k + 1) = false) := hide (by show (anyTo _ k || outB 0 1000000 (be k)) = false; rw [HNO.out]; unfold outB; rw [decide_eq_false b1, decide_eq_false b2]; rfl)
                go_wp2_with fail
                go_round
                case rel => exact ⟨k + 1, 0, rfl, by go_num, by omega, hide (.inl ⟨rfl, HY.out⟩)⟩
                case measure => simp [intOf]; omega
          · obtain rfl : k = s.nt := by omega
            have h3 : wiB 0 1000000 be s.nt = true := by unfold wiB; rw [hno]; rfl
            have H3 := hide h3
            clear h3 hno HZ
            go_upto_region 14 with fail
            have HRH := hide (refHangs_any s w7 ((HSS.out.below HC7.out.below (Nat.le_refl _)).more HC7.out.below.size) (fun k j hk hj => (HFL.out k hk).trans (HFL.out j hj).symm))
            unfold brV at HRH
            by_cases h4 : 0 ≤ (hangF s).1
            · have hEv : E = 80 ∧ b = (0, 0) := by rw [← HEE.out, ← HBB.out]; unfold crB crE; simp [H1.out, H3.out, h4]
              obtain ⟨rfl, rfl⟩ := hEv
              go_wp2_with fail
              refine HRH.out.mono ?_
              rintro e w8 ⟨rfl, hb8⟩
              have HC8 := hide (HC7.out.ext hb8)
              clear hb8 a0 a1 a2 a3 a4 a5 a6
              obtain ⟨c0, c1, c2, -, -⟩ := blk2 HC8.out.kb
              go_wp2_with fail
              refine (HK.out _).mono ?_
              rintro e w9 ⟨rfl, hb9⟩
              go_wp2_with fail
              go_ret
              exact ⟨rfl, HC8.out.below.trans (hb9.mono HC8.out.below.size)⟩
            · have h4' : (hangF s).1 < 0 := by omega
              have H4 := hide h4'
              clear h4'
              go_wp2_with fail
              refine HRH.out.mono ?_
              rintro e w8 ⟨rfl, hb8⟩
              have HC8 := hide (HC7.out.ext hb8)
              clear hb8 a0 a1 a2 a3 a4 a5 a6
              obtain ⟨a0, a1, a2, a3, a4, a5, a6⟩ := blk3 HC8.out.bx
              have HRL := hide (refLoads_any s w8 ((HSS.out.below HC8.out.below (Nat.le_refl _)).more HC8.out.below.size) H1.out H4.out)
              go_wp2_with fail
              refine HRL.out.mono ?_
              rintro e w9 hpost
              rcases hpost with ⟨h5, rfl, hb9⟩ | ⟨h5, zo, v, rfl, hR⟩
              · have h4n : ¬ 0 ≤ (hangF s).1 := by have := H4.out; omega
                have hEv : E = 10 ∧ b = (0, 0) := by rw [← HEE.out, ← HBB.out]; unfold crB crE; simp [H1.out, H3.out, if_neg h4n, h5]
                clear h4n
                obtain ⟨rfl, rfl⟩ := hEv
                have HC9 := hide (HC8.out.ext hb9)
                clear h5 hb9 a0 a1 a2 a3 a4 a5 a6
                obtain ⟨c0, c1, c2, -, -⟩ := blk2 HC9.out.kb
                go_wp2_with fail
                refine (HK.out _).mono ?_
                rintro e w9 ⟨rfl, hb9⟩
                go_wp2_with fail
                go_ret
                exact ⟨rfl, HC9.out.below.trans (hb9.mono HC9.out.below.size)⟩
              · have e0 : crE s s.nt be = 0 := by unfold crE; rw [H1.out, if_neg (by simp), if_neg (by simp), H3.out, if_neg (by simp), if_neg (by have := H4.out; omega), h5, if_neg (by simp)]
                have hEv : E = 0 ∧ b = firstOf (crushP s be) (bricksTo s.wn s.nt) := ⟨HEE.out.symm.trans e0, HBB.out.symm.trans (by unfold crB; rw [if_pos e0])⟩
                clear e0
                obtain ⟨rfl, hbb⟩ := hEv
                have HC9 := hide (HC8.out.ext hR.below)
                have HLR : Hid (LdsR w9 s.nt zo v (LoadsL s)) := hide ⟨hR.row, fun k hk => ⟨_, hR.fam.own k (by omega)⟩⟩
                have HCU : Hid (∀ W, Below w9.heap.size w9 W → Calls Try.prog 31 #[.agg #[.int .i64 s.wd, .int .i64 s.hg, .slice s.A s.nt s.cap], .slice (some ⟨zo, 0, none⟩) s.nt s.nt, .slice UA s.nt uc] W fun e w' => e = .returned (.agg #[.int .i64 b.1, .int .i64 b.2]) ∧ Below W.heap.size W w') := hide (fun W hb => by
                  have HCW := HC9.out.ext hb
                  have hcu := refCrushed_any s zo v (LoadsL s) UA uc be W ((HSS.out.below HCW.below (Nat.le_refl _)).more HCW.below.size) (fun k hk => by rw [HFL.out k hk]; exact hf144) (HLR.out.ext hb) (fun k hk => LoadsL_len hk) (fun k hk => LoadsL_ok H4.out (by omega)) ((HUU.out.below HCW.below (Nat.le_refl _)).more HCW.below.size) ((wiB_iff _ _ _ _).1 H3.out)
                  rw [show crushQ s (LoadsL s) be = crushP s be from rfl, ← hbb] at hcu
                  exact hcu)
                have HS21 : Hid (∀ W, CS w s g b W → W.cell? ⟨w.heap.size, 0, none⟩ = some (.int .i64 s.wd) ∧ W.cell? ⟨w.heap.size, 1, none⟩ = some (.int .i64 s.hg) ∧ W.cell? ⟨w.heap.size, 2, none⟩ = some (.slice s.A s.nt s.cap) ∧ W.cell? ⟨g, 0, none⟩ = some (.int .i64 b.1) ∧ W.cell? ⟨g, 1, none⟩ = some (.int .i64 b.2)) := hide (fun W h => by
                  obtain ⟨-, d1, d2, d3, -, -, -⟩ := blk3 h.bx
                  obtain ⟨-, d4, d5, -, -⟩ := blk2 h.kb
                  exact ⟨d1, d2, d3, d4, d5⟩)
                have hbr : Hid (b.1 = b.1) := hide rfl
                clear hbb hR h5 HLR HBB a0 a1 a2 a3 a4 a5 a6
                go_upto_region 21 with fail
                have Bd := hide (Below.refl w9.heap.size w9).drew
                refine wp_region_J (fun W : World => W.cell? ⟨w.heap.size, 0, none⟩ = some (.int .i64 s.wd) ∧ W.cell? ⟨w.heap.size, 1, none⟩ = some (.int .i64 s.hg) ∧ W.cell? ⟨w.heap.size, 2, none⟩ = some (.slice s.A s.nt s.cap) ∧ W.cell? ⟨g, 0, none⟩ = some (.int .i64 b.1) ∧ W.cell? ⟨g, 1, none⟩ = some (.int .i64 b.2)) (by kernel_rfl) ?_
                have HD := hide (HC9.out.ext Bd.out)
                generalize w9.drew = wd at Bd HD ⊢
                refine wpAnyJ_take 0 (v := ?_) (by first | exact hF | exact wideFn) (HS21.out _ HD.out) rfl (by kernel_rfl) (by kernel_rfl) (by kernel_rfl) (by kernel_rfl) rfl ?_ (by first | exact fun _ _ _ h => h | exact fun _ _ _ h => hQ2 _ _ _ _ _ h) ?_
                rotate_left
                · intro W hSW
                  simp only [List.getElem_toArray, List.getElem_cons_zero, List.getElem_cons_succ]
                  (try dsimp only at hSW)
                  go_simp
                  with_reducible rfl
                (try simp only [List.getElem_toArray, List.getElem_cons_zero, List.getElem_cons_succ, Act.put, List.setIfInBounds_toArray, List.set_cons_zero, List.set_cons_succ])
                refine wpAnyJ_take 1 (v := ?_) (by first | exact hF | exact wideFn) (HS21.out _ HD.out) rfl (by kernel_rfl) (by kernel_rfl) (by kernel_rfl) (by kernel_rfl) rfl ?_ (by first | exact fun _ _ _ h => h | exact fun _ _ _ h => hQ2 _ _ _ _ _ h) ?_
                rotate_left
                · intro W hSW
                  simp only [List.getElem_toArray, List.getElem_cons_zero, List.getElem_cons_succ]
                  (try dsimp only at hSW)
                  go_simp
                  with_reducible rfl
                (try simp only [List.getElem_toArray, List.getElem_cons_zero, List.getElem_cons_succ, Act.put, List.setIfInBounds_toArray, List.set_cons_zero, List.set_cons_succ])
                refine wpAnyJ_take 2 (v := ?_) (by first | exact hF | exact wideFn) (HS21.out _ HD.out) rfl (by kernel_rfl) (by kernel_rfl) (by kernel_rfl) (by kernel_rfl) rfl ?_ (by first | exact fun _ _ _ h => h | exact fun _ _ _ h => hQ2 _ _ _ _ _ h) ?_
                rotate_left
                · intro W hSW
                  simp only [List.getElem_toArray, List.getElem_cons_zero, List.getElem_cons_succ]
                  (try dsimp only at hSW)
                  go_simp
                  with_reducible rfl
                (try simp only [List.getElem_toArray, List.getElem_cons_zero, List.getElem_cons_succ, Act.put, List.setIfInBounds_toArray, List.set_cons_zero, List.set_cons_succ])
                refine wpAnyJ_take 3 (v := ?_) (by first | exact hF | exact wideFn) (HS21.out _ HD.out) rfl (by kernel_rfl) (by kernel_rfl) (by kernel_rfl) (by kernel_rfl) rfl ?_ (by first | exact fun _ _ _ h => h | exact fun _ _ _ h => hQ2 _ _ _ _ _ h) ?_
                rotate_left
                · intro W hSW
                  simp only [List.getElem_toArray, List.getElem_cons_zero, List.getElem_cons_succ]
                  (try dsimp only at hSW)
                  go_simp
                  with_reducible rfl
                (try simp only [List.getElem_toArray, List.getElem_cons_zero, List.getElem_cons_succ, Act.put, List.setIfInBounds_toArray, List.set_cons_zero, List.set_cons_succ])
                refine wpAnyJ_take 4 (v := ?_) (by first | exact hF | exact wideFn) (HS21.out _ HD.out) rfl (by kernel_rfl) (by kernel_rfl) (by kernel_rfl) (by kernel_rfl) rfl ?_ (by first | exact fun _ _ _ h => h | exact fun _ _ _ h => hQ2 _ _ _ _ _ h) ?_
                rotate_left
                · intro W hSW
                  simp only [List.getElem_toArray, List.getElem_cons_zero, List.getElem_cons_succ]
                  (try dsimp only at hSW)
                  go_simp
                  with_reducible rfl
                (try simp only [List.getElem_toArray, List.getElem_cons_zero, List.getElem_cons_succ, Act.put, List.setIfInBounds_toArray, List.set_cons_zero, List.set_cons_succ])
                refine wpAnyJ_take 5 (v := ?_) (by first | exact hF | exact wideFn) (HS21.out _ HD.out) rfl (by kernel_rfl) (by kernel_rfl) (by kernel_rfl) (by kernel_rfl) rfl ?_ (by first | exact fun _ _ _ h => h | exact fun _ _ _ h => hQ2 _ _ _ _ _ h) ?_
                rotate_left
                · intro W hSW
                  simp only [List.getElem_toArray, List.getElem_cons_zero, List.getElem_cons_succ]
                  (try dsimp only at hSW)
                  go_simp
                  with_reducible rfl
                (try simp only [List.getElem_toArray, List.getElem_cons_zero, List.getElem_cons_succ, Act.put, List.setIfInBounds_toArray, List.set_cons_zero, List.set_cons_succ])
                refine wpAnyJ_take 6 (v := ?_) (by first | exact hF | exact wideFn) (HS21.out _ HD.out) rfl (by kernel_rfl) (by kernel_rfl) (by kernel_rfl) (by kernel_rfl) rfl ?_ (by first | exact fun _ _ _ h => h | exact fun _ _ _ h => hQ2 _ _ _ _ _ h) ?_
                rotate_left
                · intro W hSW
                  simp only [List.getElem_toArray, List.getElem_cons_zero, List.getElem_cons_succ]
                  (try dsimp only at hSW)
                  go_simp
                  with_reducible rfl
                (try simp only [List.getElem_toArray, List.getElem_cons_zero, List.getElem_cons_succ, Act.put, List.setIfInBounds_toArray, List.set_cons_zero, List.set_cons_succ])
                refine wpAnyJ_one 7 rfl (by kernel_rfl) (fun K hK => ?_)
                simp only [List.getElem_toArray, List.getElem_cons_zero, List.getElem_cons_succ]
                go_simp
                refine ⟨trivial, rfl, ?_⟩
                refine (callsIn_wide.2 (HCU.out _ Bd.out)).mono ?_
                rintro e w10 ⟨rfl, hb10⟩
                have HE := hide (HD.out.ext hb10)
                dsimp only
                refine hK.out _ _ (fun _ => HS21.out _ HE.out) ?_
                clear hK K
                (try simp only [List.getElem_toArray, List.getElem_cons_zero, List.getElem_cons_succ, Act.put, List.setIfInBounds_toArray, List.set_cons_zero, List.set_cons_succ])
                refine wpAnyJ_take 8 (v := ?_) (by first | exact hF | exact wideFn) (HS21.out _ HE.out) rfl (by kernel_rfl) (by kernel_rfl) (by kernel_rfl) (by kernel_rfl) rfl ?_ (by first | exact fun _ _ _ h => h | exact fun _ _ _ h => hQ2 _ _ _ _ _ h) ?_
                rotate_left
                · intro W hSW
                  simp only [List.getElem_toArray, List.getElem_cons_zero, List.getElem_cons_succ]
                  (try dsimp only at hSW)
                  go_simp
                  with_reducible rfl
                (try simp only [List.getElem_toArray, List.getElem_cons_zero, List.getElem_cons_succ, Act.put, List.setIfInBounds_toArray, List.set_cons_zero, List.set_cons_succ])
                refine wpAnyJ_take 9 (v := ?_) (by first | exact hF | exact wideFn) (HS21.out _ HE.out) rfl (by kernel_rfl) (by kernel_rfl) (by kernel_rfl) (by kernel_rfl) rfl ?_ (by first | exact fun _ _ _ h => h | exact fun _ _ _ h => hQ2 _ _ _ _ _ h) ?_
                rotate_left
                · intro W hSW
                  simp only [List.getElem_toArray, List.getElem_cons_zero, List.getElem_cons_succ]
                  (try dsimp only at hSW)
                  go_simp
                  with_reducible rfl
                (try simp only [List.getElem_toArray, List.getElem_cons_zero, List.getElem_cons_succ, Act.put, List.setIfInBounds_toArray, List.set_cons_zero, List.set_cons_succ])
                refine wpAnyJ_take 10 (v := ?_) (by first | exact hF | exact wideFn) (HS21.out _ HE.out) rfl (by kernel_rfl) (by kernel_rfl) (by kernel_rfl) (by kernel_rfl) rfl ?_ (by first | exact fun _ _ _ h => h | exact fun _ _ _ h => hQ2 _ _ _ _ _ h) ?_
                rotate_left
                · intro W hSW
                  simp only [List.getElem_toArray, List.getElem_cons_zero, List.getElem_cons_succ]
                  (try dsimp only at hSW)
                  go_simp
                  with_reducible rfl
                (try simp only [List.getElem_toArray, List.getElem_cons_zero, List.getElem_cons_succ, Act.put, List.setIfInBounds_toArray, List.set_cons_zero, List.set_cons_succ])
                refine wpAnyJ_one 11 rfl (by kernel_rfl) (fun K hK => ?_)
                simp only [List.getElem_toArray, List.getElem_cons_zero, List.getElem_cons_succ]
                go_simp
                refine ⟨trivial, rfl, ?_⟩
                refine (callsIn_wide.2 (HK.out _)).mono ?_
                rintro e w11 ⟨rfl, hb11⟩
                have HF := hide (HE.out.ext hb11)
                dsimp only
                refine hK.out _ _ (fun _ => HS21.out _ HF.out) ?_
                clear hK K
                (try simp only [List.getElem_toArray, List.getElem_cons_zero, List.getElem_cons_succ, Act.put, List.setIfInBounds_toArray, List.set_cons_zero, List.set_cons_succ])
                refine wpAnyJ_take 12 (v := ?_) (by first | exact hF | exact wideFn) (HS21.out _ HF.out) rfl (by kernel_rfl) (by kernel_rfl) (by kernel_rfl) (by kernel_rfl) rfl ?_ (by first | exact fun _ _ _ h => h | exact fun _ _ _ h => hQ2 _ _ _ _ _ h) ?_
                rotate_left
                · intro W hSW
                  simp only [List.getElem_toArray, List.getElem_cons_zero, List.getElem_cons_succ]
                  (try dsimp only at hSW)
                  go_simp
                  with_reducible rfl
                (try simp only [List.getElem_toArray, List.getElem_cons_zero, List.getElem_cons_succ, Act.put, List.setIfInBounds_toArray, List.set_cons_zero, List.set_cons_succ])
                refine wpAnyJ_take 13 (v := ?_) (by first | exact hF | exact wideFn) (HS21.out _ HF.out) rfl (by kernel_rfl) (by kernel_rfl) (by kernel_rfl) (by kernel_rfl) rfl ?_ (by first | exact fun _ _ _ h => h | exact fun _ _ _ h => hQ2 _ _ _ _ _ h) ?_
                rotate_left
                · intro W hSW
                  simp only [List.getElem_toArray, List.getElem_cons_zero, List.getElem_cons_succ]
                  (try dsimp only at hSW)
                  go_simp
                  with_reducible rfl
                (try simp only [List.getElem_toArray, List.getElem_cons_zero, List.getElem_cons_succ, Act.put, List.setIfInBounds_toArray, List.set_cons_zero, List.set_cons_succ])
                refine wpAnyJ_done (by kernel_rfl) ?_
                go_wp2_with fail
                go_ret
                exact ⟨rfl, HF.out.below⟩
        · have h3 : wiB 0 1000000 be s.nt = false := by
            unfold wiB
            rw [Bool.not_eq_false', anyTo_iff]
            obtain ⟨j, hj, h⟩ := (anyTo_iff _ _).1 hyes
            exact ⟨j, by omega, h⟩
          have hEv : E = 3 ∧ b = (0, 0) := by rw [← HEE.out, ← HBB.out]; unfold crB crE; simp [H1.out, h3]
          obtain ⟨rfl, rfl⟩ := hEv
          obtain ⟨c0, c1, c2, -, -⟩ := blk2 HC7.out.kb
          clear hyes HZ h3
          by_cases hlt : k < s.nt
          · have j2 : (k : Int) < (s.nt : Int) := by omega
            go_wp2_with fail
            refine (HK.out _).mono ?_
            rintro e w9 ⟨rfl, hb9⟩
            go_wp2_with fail
            go_ret
            exact ⟨rfl, HC7.out.below.trans (hb9.mono HC7.out.below.size)⟩
          · have j2 : ¬ (k : Int) < (s.nt : Int) := by omega
            go_wp2_with fail
            refine (HK.out _).mono ?_
            rintro e w9 ⟨rfl, hb9⟩
            go_wp2_with fail
            go_ret
            exact ⟨rfl, HC7.out.below.trans (hb9.mono HC7.out.below.size)⟩
    · have hEv : E = 4 ∧ b = (0, 0) := by rw [← HEE.out, ← HBB.out]; unfold crB crE; simp [h1, h2]
      obtain ⟨rfl, rfl⟩ := hEv
      have hnn : ((un : Int) != (s.nt : Int)) = true := by simp; omega
      go_wp2_with fail
      refine HRS.out.mono ?_
      rintro e w7 ⟨rfl, hb7⟩
      have HC7 := hide (HC.out.ext hb7)
      clear hb7 a0 a1 a2 a3 a4 a5 a6
      obtain ⟨c0, c1, c2, -, -⟩ := blk2 HC7.out.kb
      obtain ⟨a0, a1, a2, a3, a4, a5, a6⟩ := blk3 HC7.out.bx
      go_upto_region 9 with fail
      go_wp2_with fail
      go_loop [7, 8] (fun q i => q = .int .i64 4 ∧ i = .int .i64 0) (fun _ _ => 0)
      case atStart => exact ⟨rfl, rfl⟩
      obtain ⟨rfl, rfl⟩ := hrel
      by_cases hz9 : (0 : Int) < (un : Int)
      · go_wp2_with fail
        refine (HK.out _).mono ?_
        rintro e w9 ⟨rfl, hb9⟩
        go_wp2_with fail
        go_ret
        exact ⟨rfl, HC7.out.below.trans (hb9.mono HC7.out.below.size)⟩
      · go_wp2_with fail
        refine (HK.out _).mono ?_
        rintro e w9 ⟨rfl, hb9⟩
        go_wp2_with fail
        go_ret
        exact ⟨rfl, HC7.out.below.trans (hb9.mono HC7.out.below.size)⟩
end Go.Proofs.Ytlhekifmkkgjlaa
/- The law KilnCrushes: its cases joined. -/
namespace Go.Proofs.Ytlhekifmkkgjlaa
open Go Go.RowKit Go.Shelf Go.ChangeShapes Go.WideShapes Go.ChangeAt
set_option maxRecDepth 100000
section
variable {H : Type} {enc : TypeId × Value → H} {W : World} {b0 : Nat} {v : Value} {d : DataW H} {p : List MemPlace} {r : Reach}
theorem open_ints_top (hval : Value.okWide Try.prog W r b0 56 v) (h : DataW.Trod enc Try.prog W 0 (fun _ => true) true 56 v d p) (hlt : ∀ x ∈ p, x.block < W.heap.size) :
    ∃ (A : Option Addr) (n c : Nat) (z : Nat → Int), v = .slice A n c ∧ n ≤ maxLen ∧ IR W W.heap.size A n z ∧ ∀ i, i < n → -9223372036854775808 ≤ z i ∧ z i ≤ 9223372036854775807 := by
  obtain ⟨fuel, h⟩ := h
  obtain ⟨A, n, c, rfl⟩ := okWide_slice Try.underlying56 hval
  rw [cells_slice] at h
  obtain ⟨A', n', c', z, h1, h2, -, h3, h4⟩ := open_ints_c Try.underlying56 h hlt
  exact ⟨A', n', c', z, h1, h2, h3, h4⟩
end
theorem large_no {s : Stk} (h : largeB s = false) : s.nt ≤ 12 ∧ ∀ k, k < s.nt → s.cn k ≤ 150 ∧ s.wn k ≤ 150 := by
  unfold largeB at h
  rw [Bool.or_eq_false_iff, decide_eq_false_iff_not] at h
  refine ⟨by omega, fun k hk => ?_⟩
  apply Classical.byContradiction
  intro hn
  have : anyTo (bigB s 150) s.nt = true := (anyTo_iff _ _).2 ⟨k, hk, by unfold bigB; rw [Bool.or_eq_true, decide_eq_true_eq, decide_eq_true_eq]; omega⟩
  rw [h.1] at this; cases this
theorem crushes_law (s : Stk) (UA : Option Addr) (un uc : Nat) (be : Nat → Int) (w : World) (hq : StkQ w s) (hun : un ≤ maxLen) (hu : IR w w.heap.size UA un be) :
    Calls Try.prog 7 #[.agg #[.int .i64 s.wd, .int .i64 s.hg, .slice s.A s.nt s.cap], .slice UA un uc] w fun e w' => e = .returned (.bool true) ∧ Below w.heap.size w w' := by
  by_cases hg : largeB s = true ∨ 15 < un
  · exact crushes_guard s UA un uc w hq.loose hun hg
  · have hL : largeB s = false := by
      rcases h : largeB s with _ | _
      · rfl
      · exact absurd (.inl h) hg
    obtain ⟨h1, h2⟩ := large_no hL
    exact crushes_main s UA un uc be w (hq.tight (by omega) (fun k hk => by have := h2 k hk; omega)) hu (by omega) h1 h2 hL
end Go.Proofs.Ytlhekifmkkgjlaa
