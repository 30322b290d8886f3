/- Contracts of chapter 8 on the book: a new book, Mould, Dry, Count. -/
import Derived.Test.YtlhekifmkkgjlaaKj
import Derived.RegionCalls
set_option linter.unusedSimpArgs false
set_option linter.unusedVariables false
set_option linter.unnecessarySimpa false
namespace Go.Proofs.Ytlhekifmkkgjlaa
open Go Go.RowKit
set_option maxHeartbeats 800000
theorem run_make_rowN {P : Program} (t e : TypeId) (i : TypeInfo) (z : Value) (ht : P.underlying t = some (.slice e)) (hi : P.info? e = some i) (hz : i.zero = some z)
    (kl kc : IntKind) (n c : Nat) (hnc : n ≤ c) (hbytes : i.bytes * c ≤ 281474976710656) (h63 : c ≤ 9223372036854775807) (w : World) :
    (Instr.makeSlice t (.int kl (n : Int)) (.int kc (c : Int))).run P w = .ok (.slice (some ⟨w.heap.size, 0, none⟩) n c) (w.alloc (.cells (madeCells z.cells (c * i.size)) e)) := by
  have hb : (i.bytes : Int) * (c : Int) ≤ 281474976710656 := by
    have h : ((i.bytes * c : Nat) : Int) ≤ 281474976710656 := by omega
    rwa [Int.natCast_mul] at h
  have hr := run_make (P := P) w t e i z ht hi hz kl kc n c (by omega) (by omega) hb (by omega)
  simp only [Int.toNat_natCast] at hr
  exact hr
theorem info_int : (Try.prog.info? 3).map (fun i => (i.zero, i.size, i.bytes)) = some (some (.int .i64 0), 1, 8) := by kernel_rfl
theorem info_store : (Try.prog.info? 156).map (fun i => (i.zero, i.size, i.bytes)) = some (some (.agg #[.int .i64 0, .int .i64 0, .int .i64 0, .int .i64 0, .int .i64 0, .int .i64 0, .int .i64 0]), 7, 56) := by kernel_rfl
def IsRow (w w' : World) (n : Nat) (x : Nat → Int) (e : Ending) : Prop :=
  ∃ A c, e = .returned (.slice A n c) ∧ w'.ownsRow w.heap.size 3 1 (.slice A n c) n (cellsOf 1 n fun k _ => .int .i64 (x k))
theorem cells_one (n : Nat) (x : Nat → Int) : ∀ u ∈ cellsOf 1 n (fun k _ => Value.int .i64 (x k)), u.oneCell' = true := by
  intro u hu
  simp only [cellsOf, List.mem_map] at hu
  obtain ⟨j, _, rfl⟩ := hu
  rfl
/-- slices.Clone of ints -/
theorem clone_any (A : Option Addr) (n c : Nat) (x : Nat → Int) (w : World) (hn : n ≤ 65536) (hn0 : 0 < n) (hR : IR w w.heap.size A n x) :
    Calls Try.prog 75 #[.slice A n c] w fun e w' => IsRow w w' n x e ∧ Below w.heap.size w w' := by
  obtain ⟨i0, hi, hz0, hz1, hz2⟩ := info_parts info_int
  obtain ⟨b, off, rfl, hb, hc⟩ := hR hn0
  have HR := hide hR
  clear hR hc
  have hnil := fun (W : World) => Lib.run_eql_slice_nil (P := Try.prog) W 56 3 (some ⟨b, off, none⟩) n c 0 0 Try.underlying56
  go_enter Try.func75, Try.ntmps75
  go_wp2_with (at_builtin; refine wpList_append_any _ rfl (.tmp 5) (.tmp 6) _ rfl w.heap.size 3 i0 _ 1 8 Try.underlying56 hi hz0 hz1 hz2 rfl (by omega) (.slice (some ⟨w.heap.size, 0, none⟩) 0 0) 0 [] rfl (own_empty w _ 1) w.heap.size (some ⟨b, off, none⟩) n c (cellsOf 1 n fun k _ => .int .i64 (x k)) rfl ((HR.out.below ((Below.refl _ _).alloc (Nat.le_refl _) _) (Nat.le_refl _)).reads (by omega)) (cells_one n x) (by unfold maxLen; omega) (by omega) (by simp) ?_; intro v1 w1 hown1 hg1 hat1)
  have hB : Below w.heap.size w w1 := ((Below.refl _ _).alloc (Nat.le_refl _) _).grown hg1 (by simp) (by simp [Value.ownBlock])
  go_ret
  rw [Nat.zero_add, List.nil_append] at hown1
  obtain ⟨A', c', hv, -, -⟩ := ER.of_own hown1 (by omega)
  exact ⟨⟨A', c', by rw [← hv]; rfl, by rw [← hv]; exact hown1⟩, hB⟩
/-- how many bricks of a kind there are -/
structure Wa where
  (wet dry burning fired laid broken missing : Int)
def Wa.zero : Wa := ⟨0, 0, 0, 0, 0, 0, 0⟩
def KindW (w : World) (S o : Nat) (x : Wa) : Prop := Kind7 w S o x.wet x.dry x.burning x.fired x.laid x.broken x.missing
def OkW (x : Wa) : Prop := Ok7 x.wet x.dry x.burning x.fired x.laid x.broken x.missing
/-- the stores of n kinds in block S -/
def Stores (w : World) (S n : Nat) (ws : Nat → Wa) : Prop := (∃ cs : Array Value, Blk w S 156 cs) ∧ ∀ k, k < n → KindW w S (k * 7) (ws k)
/-- a book in block b -/
def BookAt (w : World) (base b S n : Nat) (sp : Nat → Int) (room : Int) (ws : Nat → Wa) (ov : Value) : Prop :=
  ∃ A c, Blk w b 148 #[.slice A n c, .int .i64 room, .slice (some ⟨S, 0, none⟩) n n, ov] ∧
    w.ownsRow base 3 1 (.slice A n c) n (cellsOf 1 n fun k _ => .int .i64 (sp k)) ∧ Stores w S n ws ∧ base ≤ S ∧ base ≤ b
theorem KindW.below {w w' : World} {B S o : Nat} {x : Wa} (h : KindW w S o x) (hb : Below B w w') (hS : S < B) : KindW w' S o x := Kind7.below h hb hS
theorem Stores.below {w w' : World} {B S n : Nat} {ws : Nat → Wa} (h : Stores w S n ws) (hb : Below B w w') (hS : S < B) : Stores w' S n ws := by
  obtain ⟨⟨cs, hc⟩, hk⟩ := h
  exact ⟨⟨cs, hc.below hb hS⟩, fun k hkn => (hk k hkn).below hb hS⟩
theorem Stores.lt {w : World} {S n : Nat} {ws : Nat → Wa} (h : Stores w S n ws) : S < w.heap.size := by
  obtain ⟨⟨cs, hc⟩, -⟩ := h
  exact hc.lt
theorem Stores.alloc {w : World} {S n : Nat} {ws : Nat → Wa} (h : Stores w S n ws) (o : Obj) : Stores (w.alloc o) S n ws :=
  h.below ((Below.refl w.heap.size w).alloc (Nat.le_refl _) o) h.lt
theorem ownMono {w : World} {base base' : Nat} {e : TypeId} {size n : Nat} {v : Value} {xs : List Value} (h : w.ownsRow base e size v n xs) (hb : base' ≤ base) : w.ownsRow base' e size v n xs := by
  obtain ⟨h1, h2⟩ := h
  refine ⟨h1, ?_⟩
  rcases h2 with h2 | ⟨g, cap, cur, hv, hg, hr⟩
  · exact .inl h2
  · exact .inr ⟨g, cap, cur, hv, by omega, hr⟩
def NewPost (n : Nat) (sp : Nat → Int) (room : Int) (w : World) (e : Ending) (w' : World) : Prop :=
  ∃ b S, e = .returned (.tuple #[.pointer (some ⟨b, 0, none⟩), .int .i64 0]) ∧ BookAt w' w.heap.size b S n sp room (fun _ => Wa.zero) (.slice none 0 0) ∧ Below w.heap.size w w'
theorem stores_made (w : World) (n : Nat) : Stores (w.alloc (.cells (madeCells #[.int .i64 0, .int .i64 0, .int .i64 0, .int .i64 0, .int .i64 0, .int .i64 0, .int .i64 0] (n * 7)) 156)) w.heap.size n (fun _ => Wa.zero) := by
  have hB := Blk.new w 156 (madeCells #[.int .i64 0, .int .i64 0, .int .i64 0, .int .i64 0, .int .i64 0, .int .i64 0, .int .i64 0] (n * 7))
  refine ⟨⟨_, hB⟩, fun k hk => ?_⟩
  have hc : ∀ i, i < n * 7 → (w.alloc (.cells (madeCells #[.int .i64 0, .int .i64 0, .int .i64 0, .int .i64 0, .int .i64 0, .int .i64 0, .int .i64 0] (n * 7)) 156)).cell? ⟨w.heap.size, i, none⟩ = some (.int .i64 0) := by
    intro i hi
    rw [hB.cell]
    have h7 : i % 7 < 7 := Nat.mod_lt _ (by omega)
    simp only [madeCells, Array.getElem?_map, Array.getElem?_range, hi, if_true, Option.map_some]
    congr 1
    rcases (by omega : i % 7 = 0 ∨ i % 7 = 1 ∨ i % 7 = 2 ∨ i % 7 = 3 ∨ i % 7 = 4 ∨ i % 7 = 5 ∨ i % 7 = 6) with h | h | h | h | h | h | h <;> simp [h]
  exact ⟨hB.lt, fun i => hB.frozen i, hc _ (by omega), hc _ (by omega), hc _ (by omega), hc _ (by omega), hc _ (by omega), hc _ (by omega), hc _ (by omega)⟩
def newOk (n : Nat) (sp : Nat → Int) (room : Int) : Bool := decide (1 ≤ n) && decide (n ≤ 20) && wiB 1 1000 sp n && decide (0 ≤ room ∧ room ≤ 1000000000)
theorem new_err (A : Option Addr) (n c : Nat) (sp : Nat → Int) (room : Int) (w : World) (hn : n ≤ 65536) (hR : IR w w.heap.size A n sp) (h : newOk n sp room = false) :
    Calls Try.prog 33 #[.slice A n c, .int .i64 room] w fun e w' => e = .returned (.tuple #[.pointer none, .int .i64 2]) ∧ Below w.heap.size w w' := by
  have HC := hide (fun W (h : Below w.heap.size w W) => within_any 1 1000 A n c sp W (by unfold maxLen; omega) ((hR.below h (Nat.le_refl _)).more h.size))
  clear hR
  rcases (by omega : n < 1 ∨ 20 < n ∨ (1 ≤ n ∧ n ≤ 20)) with h1 | h1 | ⟨h1, h2⟩
  · go_enter Try.func33, Try.ntmps33
    go_wp2_with fail
    go_ret2
    exact ⟨rfl, Below.refl _ _⟩
  · go_enter Try.func33, Try.ntmps33
    go_wp2_with fail
    go_ret2
    exact ⟨rfl, Below.refl _ _⟩
  · rcases hw : wiB 1 1000 sp n with _ | _
    · rw [hw] at HC
      clear h hw
      go_enter Try.func33, Try.ntmps33
      go_wp2_with fail
      refine (HC.out _ (Below.refl _ _)).mono ?_
      rintro e w1 ⟨rfl, hb1⟩
      go_wp2_with fail
      go_ret2
      exact ⟨rfl, hb1⟩
    · have h3 : ¬ (0 ≤ room ∧ room ≤ 1000000000) := by
        simp only [newOk, hw, h1, h2, decide_true, Bool.true_and, decide_eq_false_iff_not] at h
        exact h
      rw [hw] at HC
      have HD := hide (decide_eq_false h3)
      clear h hw h3
      go_enter Try.func33, Try.ntmps33
      go_wp2_with fail
      refine (HC.out _ (Below.refl _ _)).mono ?_
      rintro e w1 ⟨rfl, hb1⟩
      go_wp2_with fail
      refine (within_any 0 1000000000 _ 1 1 (fun _ => room) _ (by decide) ?_).mono ?_
      · simpa using IR.one w1 room 3
      rw [wiB_one, HD.out]
      rintro e w2 ⟨rfl, hb2⟩
      go_wp2_with fail
      go_ret2
      exact ⟨rfl, (hb1.alloc hb1.size _).trans (hb2.mono (by have := hb1.size; simp only [World.size_alloc]; omega))⟩
theorem new_ok (A : Option Addr) (n c : Nat) (sp : Nat → Int) (room : Int) (w : World) (hR : IR w w.heap.size A n sp) (h : newOk n sp room = true) :
    Calls Try.prog 33 #[.slice A n c, .int .i64 room] w (NewPost n sp room w) := by
  simp only [newOk, Bool.and_eq_true, decide_eq_true_eq] at h
  obtain ⟨⟨⟨h1, h2⟩, hw⟩, h3⟩ := h
  have HC := hide (fun W (h : Below w.heap.size w W) => within_any 1 1000 A n c sp W (by unfold maxLen; omega) ((hR.below h (Nat.le_refl _)).more h.size))
  rw [hw] at HC
  have HD := hide (decide_eq_true h3)
  have HE := hide (fun W (h : Below w.heap.size w W) => clone_any A n c sp W (by omega) (by omega) ((hR.below h (Nat.le_refl _)).more h.size))
  obtain ⟨i0, hi, hz0, hz1, hz2⟩ := info_parts info_store
  have HM := hide (fun W : World => run_make_rowN (P := Try.prog) 146 156 i0 _ Try.underlying146 hi hz0 .i64 .i64 n n (Nat.le_refl _) (by rw [hz2]; omega) (by omega) W)
  rw [hz1] at HM
  clear hR hw h3 hi hz0 hz1 hz2
  go_enter Try.func33, Try.ntmps33
  go_wp2_with fail
  refine (HC.out _ (Below.refl _ _)).mono ?_
  rintro e w1 ⟨rfl, hb1⟩
  go_wp2_with fail
  refine (within_any 0 1000000000 _ 1 1 (fun _ => room) _ (by decide) ?_).mono ?_
  · simpa using IR.one w1 room 3
  rw [wiB_one, HD.out]
  rintro e w2 ⟨rfl, hb2⟩
  have hB2 : Below w.heap.size w w2 := (hb1.alloc hb1.size _).trans (hb2.mono (by have := hb1.size; simp only [World.size_alloc]; omega))
  clear hb1 hb2
  go_wp2_with fail
  have hmk := HM.out
  go_region_with ((go_at_call 75; refine (HE.out _ ?_).mono ?_; (first | exact hB2.drew | exact (hB2.alloc hB2.size _).drew); rintro e w3 ⟨⟨A', c', rfl, hown⟩, hb3⟩))
  · go_wp2_with fail
    go_ret2
    have z2 : w2.heap.size ≤ w3.heap.size := hb3.size
    have z0 := hB2.size
    refine ⟨w3.heap.size + 1, w3.heap.size, rfl, ⟨A', c', ?_, (ownMono hown (by simpa using z0)).alloc _ |>.alloc _, ?_, by omega, by omega⟩, ((hB2.drew.trans (hb3.mono (by simpa using z0))).alloc (by omega) _).alloc (by simp only [World.size_alloc]; omega) _⟩
    · have := Blk.new (w3.alloc (.cells (madeCells #[.int .i64 0, .int .i64 0, .int .i64 0, .int .i64 0, .int .i64 0, .int .i64 0, .int .i64 0] (n * 7)) 156)) 148 #[.slice A' n c', .int .i64 room, .slice (some ⟨w3.heap.size, 0, none⟩) n n, .slice none 0 0]
      rw [World.size_alloc] at this
      exact this
    · exact Stores.alloc (stores_made w3 n) _
  · go_wp2_with fail
    go_ret2
    have z2 : w2.heap.size + 1 ≤ w3.heap.size := by have := hb3.size; simpa using this
    have z0 := hB2.size
    have hst : Stores w3 w2.heap.size n (fun _ => Wa.zero) := Stores.below (stores_made w2 n) (w' := w3) (B := w2.heap.size + 1) ⟨hb3.os, hb3.tape, hb3.output, hb3.size, fun k hk => hb3.block k (by simp only [World.size_alloc, World.drew]; simpa using hk)⟩ (by omega)
    refine ⟨w3.heap.size, w2.heap.size, rfl, ⟨A', c', Blk.new w3 _ _, (ownMono hown (by simp; omega)).alloc _, Stores.alloc hst _, by omega, by omega⟩, (((hB2.alloc z0 _).drew.trans (hb3.mono (by simp; omega))).alloc (by omega) _)⟩
end Go.Proofs.Ytlhekifmkkgjlaa
