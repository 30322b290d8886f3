/- Song, plain: letters, what makes a line valid. -/
import Derived.Test.YtlkkkgpcjdemdaaDoorSongB
import Derived.Lib.OthersKept
import Derived.Laws.IdiomStrings
import Derived.Laws.RangeAny
import Derived.RangeFuncNested
import Derived.RangeFuncBound
import Derived.RangeFuncCalls
import Derived.RangeFuncLeaves
import Derived.Shelf.RegionOpen
import Derived.OwnWalkIn
import Derived.TacticsInMore
import Derived.LoopNIn
import Derived.LoopIn
set_option linter.unusedSimpArgs false
set_option linter.unusedVariables false
set_option linter.unnecessarySimpa false
namespace Go.Proofs.YtlkkkgpcjdemdaaDoor
open Go Go.RowKit Go.Shelf
set_option maxHeartbeats 2000000
set_option maxRecDepth 100000
def sA : Wd := ⟨#[97, 105, 117]⟩
def lA : Wd := ⟨#[65, 73, 85, 101, 111]⟩
def cA : Wd := ⟨#[107, 103, 99, 106, 116, 100, 110, 112, 98, 109, 121, 114, 108, 118, 115, 104]⟩
def mA : Wd := ⟨#[77, 72]⟩
def pA : Wd := ⟨#[32]⟩
theorem AscL.of {l : List Wd} (h : (l.all fun x => x.data.toList.all (fun b => decide (b.toNat < 128)) && decide (x.size ≤ 100)) = true) : AscL l := by
  intro x hx
  have := List.all_eq_true.1 h x hx
  rw [Bool.and_eq_true, decide_eq_true_iff] at this
  exact ⟨fun b hb => by simpa using List.all_eq_true.1 this.1 b hb, this.2⟩
def vwB (c : Nat) : Bool := isL [sA, lA] c
def lnB (c : Nat) : Bool := isL [lA] c
def clB (c : Nat) : Bool := isL [mA] c
def okB (c : Nat) : Bool := isL [sA, lA, cA, mA, pA] c
theorem isL_hi {l : List Wd} (h : AscL l) {c : Nat} (hc : 128 ≤ c) : isL l c = false := by
  unfold isL
  rw [List.any_eq_false]
  intro x hx
  rw [memC_hi _ (h x hx).1 hc]
  exact Bool.false_ne_true
theorem ok_lt {c : Nat} (h : okB c = true) : c < 128 := by
  apply Classical.byContradiction
  intro hn
  unfold okB at h
  rw [isL_hi (AscL.of (by decide)) (by omega)] at h
  cases h
/-- the letter ahead of place i; a space ahead of the first -/
def prv (l : List UInt8) (i : Nat) : Nat := if i = 0 then 32 else (l.getD (i - 1) 0).toNat
def clash (l : List UInt8) (i : Nat) : Bool := clB (l.getD i 0).toNat && !vwB (prv l i)
def bad4 (l : List UInt8) : Bool := l.isEmpty || (Lib.trimB l 32 != l || Lib.contains l [32, 32])
def badC (l : List UInt8) : Bool := l.any fun b => !okB b.toNat
def novw (l : List UInt8) : Bool := l.all fun b => !vwB b.toNat
/-- the error of a line -/
def chkE (l : List UInt8) : Int := if 300 < l.length then 5 else if bad4 l then 4 else if badC l then 4 else if anyTo (clash l) l.length then 100 else if novw l then 100 else 0
theorem getD_mem {l : List UInt8} {k : Nat} (h : k < l.length) : l.getD k 0 ∈ l := by
  rw [List.getD_eq_getElem?_getD, List.getElem?_eq_getElem h]; exact List.getElem_mem h
def cntV (l : List UInt8) : Nat → Nat
  | 0 => 0
  | k + 1 => cntV l k + if vwB (l.getD k 0).toNat then 1 else 0
theorem cntV_le (l : List UInt8) : ∀ k, cntV l k ≤ k
  | 0 => Nat.le_refl _
  | k + 1 => by have := cntV_le l k; unfold cntV; split <;> omega
theorem cntV_zero (l : List UInt8) : ∀ k, cntV l k = 0 ↔ ∀ j, j < k → vwB (l.getD j 0).toNat = false
  | 0 => by simp [cntV]
  | k + 1 => by
    have ih := cntV_zero l k
    unfold cntV
    constructor
    · intro h j hj
      rcases (by omega : j < k ∨ j = k) with h1 | rfl
      · exact ih.1 (by omega) j h1
      · rcases hv : vwB (l.getD j 0).toNat with _ | _
        · rfl
        · rw [hv] at h; simp at h
    · intro h
      rw [ih.2 (fun j hj => h j (by omega)), h k (by omega)]
      rfl
theorem novw_cnt (l : List UInt8) : novw l = decide (cntV l l.length = 0) := by
  rw [Bool.eq_iff_iff, decide_eq_true_iff, cntV_zero]
  unfold novw
  rw [List.all_eq_true]
  constructor
  · intro h j hj
    simpa using h _ (getD_mem hj)
  · intro h x hx
    obtain ⟨k, hk, rfl⟩ := List.getElem_of_mem hx
    have := h k hk
    rw [List.getD_eq_getElem?_getD, List.getElem?_eq_getElem hk] at this
    simpa using this
theorem badC_to (l : List UInt8) : badC l = anyTo (fun k => !okB (l.getD k 0).toNat) l.length := by
  rw [Bool.eq_iff_iff, anyTo_iff]
  unfold badC
  rw [List.any_eq_true]
  constructor
  · rintro ⟨x, hx, h⟩
    obtain ⟨k, hk, rfl⟩ := List.getElem_of_mem hx
    exact ⟨k, hk, by rw [List.getD_eq_getElem?_getD, List.getElem?_eq_getElem hk]; exact h⟩
  · rintro ⟨k, hk, h⟩
    exact ⟨_, getD_mem hk, h⟩
theorem anyTo_false {p : Nat → Bool} {n k : Nat} (h : anyTo p n = false) (hk : k < n) : p k = false := by
  rcases hp : p k with _ | _
  · rfl
  · rw [(anyTo_iff p n).2 ⟨k, hk, hp⟩] at h; cases h
theorem anyTo_true {p : Nat → Bool} {n k : Nat} (hk : k < n) (h : p k = true) : anyTo p n = true := (anyTo_iff p n).2 ⟨k, hk, h⟩
theorem anyTo_le {p : Nat → Bool} {n k : Nat} (hk : k ≤ n) (h : anyTo p n = false) : anyTo p k = false := by
  rcases hp : anyTo p k with _ | _
  · rfl
  · obtain ⟨j, hj, hpj⟩ := (anyTo_iff p k).1 hp
    rw [anyTo_true (by omega) hpj] at h; cases h
/-- a byte of a string, as the walk reads it -/
theorem byte_at {s : ByteArray} {l : List UInt8} (h : s.data.toList = l) {k : Nat} (hk : k < s.size) : s[k]'hk = l.getD k 0 := by
  subst h
  have hk' : k < s.data.toList.length := by simpa using hk
  rw [List.getD_eq_getElem?_getD, List.getElem?_eq_getElem hk']
  show s.data[k] = _
  simp
theorem size_len {s : ByteArray} {l : List UInt8} (h : s.data.toList = l) : l.length = s.size := by subst h; simp
theorem is_new (l : List Wd) (hl : AscL l) (hn : l.length ≤ 100) (c : Nat) (W : World) (hc : c < 256) :
    Calls Tryd.prog 58 #[.int .i32 (c : Int), .slice (some ⟨W.heap.size, 0, none⟩) l.length l.length] (W.alloc (.cells (l.map Value.string).toArray 9)) fun e w' => e = .returned (.bool (isL l c)) ∧ Below (W.alloc (.cells (l.map Value.string).toArray 9)).heap.size (W.alloc (.cells (l.map Value.string).toArray 9)) w' :=
  is_any l c l.length _ _ hc hl hn (fun _ => ⟨W.heap.size, 0, rfl, by simp, fun k i hk hi => by
    obtain rfl : i = 0 := by omega
    have h := cell_new W (l.map Value.string).toArray 9 k
    simp only [Nat.zero_add, Nat.mul_one, Nat.add_zero]
    rw [h, List.getElem?_toArray, List.getElem?_map, List.getElem?_eq_getElem hk, List.getD_eq_getElem?_getD, List.getElem?_eq_getElem hk]
    rfl⟩)
theorem is_cl (c : Nat) (W : World) (hc : c < 256) :
    Calls Tryd.prog 58 #[.int .i32 (c : Int), .slice (some ⟨W.heap.size, 0, none⟩) 1 1] (W.alloc (.cells #[.string ⟨#[77, 72]⟩] 9)) fun e w' => e = .returned (.bool (clB c)) ∧ Below (W.alloc (.cells #[.string ⟨#[77, 72]⟩] 9)).heap.size (W.alloc (.cells #[.string ⟨#[77, 72]⟩] 9)) w' :=
  is_new [mA] (AscL.of (by decide)) (by decide) c W hc
theorem is_ln (c : Nat) (W : World) (hc : c < 256) :
    Calls Tryd.prog 58 #[.int .i32 (c : Int), .slice (some ⟨W.heap.size, 0, none⟩) 1 1] (W.alloc (.cells #[.string ⟨#[65, 73, 85, 101, 111]⟩] 9)) fun e w' => e = .returned (.bool (lnB c)) ∧ Below (W.alloc (.cells #[.string ⟨#[65, 73, 85, 101, 111]⟩] 9)).heap.size (W.alloc (.cells #[.string ⟨#[65, 73, 85, 101, 111]⟩] 9)) w' :=
  is_new [lA] (AscL.of (by decide)) (by decide) c W hc
theorem is_vw (c : Nat) (W : World) (hc : c < 256) :
    Calls Tryd.prog 58 #[.int .i32 (c : Int), .slice (some ⟨W.heap.size, 0, none⟩) 2 2] (W.alloc (.cells #[.string ⟨#[97, 105, 117]⟩, .string ⟨#[65, 73, 85, 101, 111]⟩] 9)) fun e w' => e = .returned (.bool (vwB c)) ∧ Below (W.alloc (.cells #[.string ⟨#[97, 105, 117]⟩, .string ⟨#[65, 73, 85, 101, 111]⟩] 9)).heap.size (W.alloc (.cells #[.string ⟨#[97, 105, 117]⟩, .string ⟨#[65, 73, 85, 101, 111]⟩] 9)) w' :=
  is_new [sA, lA] (AscL.of (by decide)) (by decide) c W hc
theorem is_ok (c : Nat) (W : World) (hc : c < 256) :
    Calls Tryd.prog 58 #[.int .i32 (c : Int), .slice (some ⟨W.heap.size, 0, none⟩) 5 5] (W.alloc (.cells #[.string ⟨#[97, 105, 117]⟩, .string ⟨#[65, 73, 85, 101, 111]⟩, .string ⟨#[107, 103, 99, 106, 116, 100, 110, 112, 98, 109, 121, 114, 108, 118, 115, 104]⟩, .string ⟨#[77, 72]⟩, .string ⟨#[32]⟩] 9)) fun e w' => e = .returned (.bool (okB c)) ∧ Below (W.alloc (.cells #[.string ⟨#[97, 105, 117]⟩, .string ⟨#[65, 73, 85, 101, 111]⟩, .string ⟨#[107, 103, 99, 106, 116, 100, 110, 112, 98, 109, 121, 114, 108, 118, 115, 104]⟩, .string ⟨#[77, 72]⟩, .string ⟨#[32]⟩] 9)).heap.size (W.alloc (.cells #[.string ⟨#[97, 105, 117]⟩, .string ⟨#[65, 73, 85, 101, 111]⟩, .string ⟨#[107, 103, 99, 106, 116, 100, 110, 112, 98, 109, 121, 114, 108, 118, 115, 104]⟩, .string ⟨#[77, 72]⟩, .string ⟨#[32]⟩] 9)) w' :=
  is_new [sA, lA, cA, mA, pA] (AscL.of (by decide)) (by decide) c W hc
end Go.Proofs.YtlkkkgpcjdemdaaDoor
/- Song: Check, walked. -/
namespace Go.Proofs.YtlkkkgpcjdemdaaDoor
open Go Go.RowKit Go.Shelf
set_option maxHeartbeats 4000000
set_option maxRecDepth 100000
/-- bytealg.MaxLen holds some int -/
def ML (w : World) : Prop := ∃ m : Int, w.cell? ⟨lays144_ren.g 1, 0, none⟩ = some (.int .i64 m)
theorem ML.ext {w w' : World} (h : ML w) (hb : Below w.heap.size w w') : ML w' := by
  obtain ⟨m, hm⟩ := h
  exact ⟨m, (hb.cell (cell_lt hm)).trans hm⟩
theorem trim_sp (s : ByteArray) (l : List UInt8) (hl : s.data.toList = l) (hs : s.size ≤ maxLen) (w : World) :
    Calls Tryd.prog 56 #[.string s, .string ⟨#[32]⟩] w fun e w' => e = .returned (.string ⟨(Lib.trimB l 32).toArray⟩) ∧ Below w.heap.size w w' := by
  subst hl
  unfold maxLen at hs
  refine (Any.strings_Trim_one lays160 s 32 (by decide) w (by omega)).mono ?_
  rintro e w' ⟨rfl, h | h⟩
  · subst h; exact ⟨rfl, Below.refl _ _⟩
  · subst h; exact ⟨rfl, (Below.refl _ _).drew⟩
theorem contains_2 (s : ByteArray) (l : List UInt8) (hl : s.data.toList = l) (hs : s.size ≤ 1000) (w : World) (hM : ML w) :
    Calls Tryd.prog 57 #[.string s, .string ⟨#[32, 32]⟩] w fun e w' => e = .returned (.bool (Lib.contains l [32, 32])) ∧ w = w' := by
  subst hl
  obtain ⟨m, hm⟩ := hM
  refine (Any.strings_Contains lays144 s ⟨#[32, 32]⟩ m w (by omega) hm).mono ?_
  rintro e w' ⟨rfl, rfl⟩
  exact ⟨rfl, rfl⟩
/-- the bytes of a text as they lie in a block -/
def ByR (W : World) (g : Nat) (l : List UInt8) : Prop := ∀ k, k < l.length → W.cell? ⟨g, k, none⟩ = some (.int .u8 ((l.getD k 0).toNat : Int))
theorem ByR.ext {W W' : World} {g : Nat} {l : List UInt8} (h : ByR W g l) (hb : Below W.heap.size W W') : ByR W' g l := fun k hk => (hb.cell (cell_lt (h k hk))).trans (h k hk)
theorem bytes_of (s : ByteArray) (l : List UInt8) (hl : s.data.toList = l) (w : World) :
    ∃ c w', (convert 9 113 (.string s)).run Tryd.prog w = .ok (.slice (some ⟨w.heap.size, 0, none⟩) s.size c) w' ∧ ByR w' w.heap.size l ∧ Below w.heap.size w w' := by
  subst hl
  refine ⟨_, _, run_bytes_of_string (P := Tryd.prog) w 9 113 5 s Tryd.underlying9 Tryd.underlying113 Tryd.underlying5, ?_, ((Below.refl w.heap.size w).drew).alloc (Nat.le_refl _) _⟩
  intro k hk
  have hk' : k < s.data.size := by simpa using hk
  have h := World.cell?_alloc_mark w.drew (bytesRow s (grownCap w s.size 0 5)) 5 ((bytesRow s (grownCap w s.size 0 5)).size, (bytesRow s (grownCap w s.size 0 5)).size + 1) k
  refine Eq.trans h ?_
  rw [bytesRow_at _ _ _ hk', List.getD_eq_getElem?_getD, List.getElem?_eq_getElem hk]
  simp
def itP (k : Nat) (w : World) : Nat := match w.heap[k]? with | some (.stringIter _ p) => p | _ => 0
theorem itP_of {k : Nat} {w : World} {s : ByteArray} {p : Nat} (h : w.heap[k]? = some (.stringIter s p)) : itP k w = p := by unfold itP; rw [h]
theorem iter_lt {k : Nat} {w : World} {s : ByteArray} {p : Nat} (h : w.heap[k]? = some (.stringIter s p)) : k < w.heap.size := (Array.getElem?_eq_some_iff.1 h).1
theorem prv_lt (l : List UInt8) (k : Nat) : prv l k < 256 := by
  unfold prv; split
  · omega
  · exact UInt8.toNat_lt _
theorem prv_succ (l : List UInt8) (k : Nat) : prv l (k + 1) = (l.getD k 0).toNat := by simp [prv]
theorem clash_eq (l : List UInt8) (k : Nat) : clash l k = (clB (l.getD k 0).toNat && !vwB (prv l k)) := rfl
theorem check_any (s : ByteArray) (l : List UInt8) (hl : s.data.toList = l) (w : World) (hs : s.size ≤ maxLen) (hM : ML w) :
    Calls Tryd.prog 31 #[.string s] w fun e w' => e = .returned (.int .i64 (chkE l)) ∧ Below w.heap.size w w' := by
  have hlen := size_len hl
  have HT := hide (fun W => trim_sp s l hl hs W)
  unfold chkE
  rw [hlen]
  unfold maxLen at hs
  by_cases h3 : 300 < s.size
  · rw [if_pos h3]
    have h3' : (300 : Int) < (s.size : Int) := by omega
    clear hl HT hM hlen
    go_enter Tryd.func31, Tryd.ntmps31
    go_wp2_with fail
    go_ret
    exact ⟨rfl, Below.refl _ _⟩
  rw [if_neg h3]
  have h3' : ¬ (300 : Int) < (s.size : Int) := by omega
  have HC := hide (fun W (h : ML W) => contains_2 s l hl (by omega) W h)
  have HBY := hide (fun W => bytes_of s l hl W)
  have HA := hide (fun k (hk : k < s.size) => byte_at hl hk)
  have HL := hide hl
  have HM := hide hM
  have HLEN := hide hlen
  unfold bad4
  rcases l with _ | ⟨c0, l0⟩
  · have h1 : s.toList = [] := by rw [toList_data]; exact hl
    have h2 : s.toList.isEmpty = true := by rw [h1]; rfl
    clear hl hM hlen h3
    go_enter Tryd.func31, Tryd.ntmps31
    go_wp2_with fail
    go_ret
    exact ⟨rfl, Below.refl _ _⟩
  obtain ⟨l, hl'⟩ : ∃ l, c0 :: l0 = l := ⟨_, rfl⟩
  have h1 : ¬ s.toList = [] := by rw [toList_data, hl]; simp
  have h2 : s.toList.isEmpty = false := by rw [toList_data, hl]; rfl
  have h4 : (c0 :: l0).isEmpty = false := rfl
  rw [h4, Bool.false_or, hl']
  rw [hl'] at HT HC HBY HA HL HLEN hl hlen
  clear hl' h4
  obtain ⟨R, hR⟩ : ∃ R : ByteArray, (⟨(Lib.trimB l 32).toArray⟩ : ByteArray) = R := ⟨_, rfl⟩
  rw [hR] at HT
  by_cases hRs : R = s
  rotate_left
  · have e1 : (R.toList == s.toList) = false := str_ne hRs
    have e2 : (Lib.trimB l 32 != l) = true := by
      rw [bne_iff_ne]
      intro e
      apply hRs
      rw [← hR, e, ← hl]
    rw [e2, Bool.true_or, if_pos rfl]
    clear hl hM hlen h3 hR e2 hRs
    go_enter Tryd.func31, Tryd.ntmps31
    go_wp2_with fail
    refine (HT.out _).mono ?_
    rintro e w2 ⟨rfl, hb⟩
    go_wp2_with fail
    go_ret
    exact ⟨rfl, hb⟩
  subst hRs
  have e2 : (Lib.trimB l 32 != l) = false := by
    rw [bne_eq_false_iff_eq]
    have := congrArg (fun x : ByteArray => x.data.toList) hR
    simpa [hl] using this
  rw [e2, Bool.false_or]
  clear hl hM hlen h3 hR e2
  have e1 : (R.toList == R.toList) = true := beq_self_eq_true _
  rcases hcn : Lib.contains l [32, 32] with _ | _
  rotate_left
  · rw [if_pos rfl]
    rw [hcn] at HC
    clear hcn
    go_enter Tryd.func31, Tryd.ntmps31
    go_wp2_with fail
    refine (HT.out _).mono ?_
    rintro e w2 ⟨rfl, hb⟩
    go_wp2_with fail
    refine (HC.out w2 (HM.out.ext hb)).mono ?_
    rintro e w3 ⟨rfl, rfl⟩
    go_wp2_with fail
    go_ret
    exact ⟨rfl, hb⟩
  rw [if_neg Bool.false_ne_true]
  rw [hcn] at HC
  clear hcn
  obtain ⟨E, hE⟩ : ∃ E : Int, (if badC l = true then (4 : Int) else if anyTo (clash l) R.size = true then 100 else if novw l = true then 100 else 0) = E := ⟨_, rfl⟩
  rw [hE]
  have HE := hide hE
  clear hE
  go_enter Tryd.func31, Tryd.ntmps31
  go_wp2_with fail
  refine (HT.out _).mono ?_
  rintro e w2 ⟨rfl, hb⟩
  go_wp2_with fail
  refine (HC.out w2 (HM.out.ext hb)).mono ?_
  rintro e w3 ⟨rfl, rfl⟩
  obtain ⟨cp, w3, hcv, hby, hb3⟩ := HBY.out w2
  have HB := hide (hb.trans (hb3.mono hb.size))
  go_wp2_with fail
  obtain ⟨g, hg⟩ : ∃ g, w2.heap.size = g := ⟨_, rfl⟩
  rw [hg] at hby ⊢
  have HBY1 := hide hby
  clear hg hby hcv hb hb3 HBY HC HT
  have hR3 : R.size ≤ 300 := by omega
  go_loopw [27] (fun i wr => ∃ k : Nat, k ≤ R.size ∧ i = .int .i64 k ∧ Hid (∀ j, j < k → okB (l.getD j 0).toNat = true) ∧ Hid (Below w.heap.size w wr) ∧ Hid (ByR wr g l)) (fun i _ => R.size - (intOf i).toNat)
  case atStart => exact ⟨0, Nat.zero_le _, rfl, hide (fun j hj => by omega), HB, HBY1⟩
  case round =>
    obtain ⟨k, hk, rfl, HK, HBk, HBYk⟩ := hrel
    clear HB HBY1
    by_cases hlt : k < R.size
    · have hcell := HBYk.out k (by rw [HLEN.out]; exact hlt)
      have hc256 : (l.getD k 0).toNat < 256 := UInt8.toNat_lt _
      obtain ⟨c, hc⟩ : ∃ c, (l.getD k 0).toNat = c := ⟨_, rfl⟩
      rw [hc] at hcell hc256
      have HCC := hide hc
      clear hc
      have HIS := hide (fun W => is_ok c W hc256)
      have wi : IntKind.i32.wrap (c : Int) = (c : Int) := IntWalk.i32_in _ (by omega)
      rcases hok : okB c with _ | _
      · rw [hok] at HIS
        have HOK := hide hok
        clear hok
        go_wp2_with fail
        refine (HIS.out _).mono ?_
        rintro e w4 ⟨rfl, hb4⟩
        have HB4 := hide (HBk.out.trans ((((Below.refl wr.heap.size wr).alloc (Nat.le_refl _) _).trans (hb4.mono (by simp))).mono HBk.out.size))
        clear hb4
        go_wp2_with fail
        go_ret
        refine ⟨ret_int ?_, HB4.out⟩
        rw [← HE.out, if_pos (by rw [badC_to]; exact anyTo_true (k := k) (by rw [HLEN.out]; exact hlt) (by rw [HCC.out, HOK.out]; rfl))]
      · rw [hok] at HIS
        have HOK := hide hok
        clear hok
        go_wp2_with fail
        refine (HIS.out _).mono ?_
        rintro e w4 ⟨rfl, hb4⟩
        have hb5 := (((Below.refl wr.heap.size wr).alloc (Nat.le_refl _) _).trans (hb4.mono (by simp)))
        have HB4 := hide (HBk.out.trans (hb5.mono HBk.out.size))
        have HBY4 := hide (HBYk.out.ext hb5)
        clear hb4 hb5
        go_wp2_with fail
        go_roundw
        case rel => exact ⟨k + 1, by omega, by go_num, hide (fun j hj => by
          rcases (by omega : j < k ∨ j = k) with h | rfl
          · exact HK.out j h
          · rw [HCC.out]; exact HOK.out), HB4, HBY4⟩
        case measure => simp [intOf]; omega
    · obtain rfl : k = R.size := by omega
      have hbad : badC l = false := by
        rw [badC_to]
        rcases hh : anyTo (fun k => !okB (l.getD k 0).toNat) l.length with _ | _
        · rfl
        · obtain ⟨j, hj, h⟩ := (anyTo_iff _ _).1 hh
          rw [HLEN.out] at hj
          rw [HK.out j hj] at h
          cases h
      have HE1 : Hid ((if anyTo (clash l) R.size = true then (100 : Int) else if novw l = true then 100 else 0) = E) := hide (by rw [← HE.out, hbad, if_neg Bool.false_ne_true])
      clear hbad hlt HE
      have HASC := hide (fun j (hj : j < R.size) => ok_lt (HK.out j hj))
      clear HK HBYk
      go_wp2_with fail
      have hit := World.iter_heap wr R 0
      have HB1 : Hid (Below w.heap.size w (wr.iter R 0)) := hide (HBk.out.alloc HBk.out.size _)
      obtain ⟨it, hie⟩ : ∃ it, wr.heap.size = it := ⟨_, rfl⟩
      have hlo : w.heap.size ≤ it := by rw [← hie]; exact HBk.out.size
      rw [hie] at hit ⊢
      have HIT := hide hit
      clear hie hit HBk
      generalize wr.iter R 0 = wo at HIT HB1 ⊢
      go_loopw [5, 6] (fun v b wx => ∃ (k n : Nat), k ≤ R.size ∧ n ≤ k ∧ v = .int .i64 (n : Int) ∧ b = .int .i32 (prv l k : Nat) ∧ Hid (n = cntV l k) ∧ Hid (anyTo (clash l) k = false) ∧ Hid (wx.heap[it]? = some (.stringIter R k)) ∧ Hid (Below w.heap.size w wx)) (fun _ _ wx => R.size - itP it wx)
      case atStart => exact ⟨0, 0, Nat.zero_le _, Nat.le_refl _, rfl, rfl, hide rfl, hide rfl, HIT, HB1⟩
      case round =>
        obtain ⟨k, n, hk, hnk, rfl, rfl, HNC, HCK, HITk, HBk⟩ := hrel
        clear HIT HB1
        by_cases hlt : k < R.size
        · have hb := HA.out k hlt
          have hasc := HASC.out k hlt
          have hmea := itP_of HITk.out
          have HMEA := hide hmea
          clear hmea
          have hnx := fun ty => Lib.run_next_ascii_at (P := Tryd.prog) wr it R k ty HITk.out hlt (by rw [hb]; exact hasc)
          have hit1 := Lib.iterAt_heap wr it R k (k + 1) HITk.out
          have hb1 := Lib.below_iterAt HBk.out hlo R (k + 1)
          rw [hb] at hnx
          clear hb
          generalize wr.iterAt it R (k + 1) = wx at hnx hit1 hb1
          have HIT1 := hide hit1
          have HB1 := hide hb1
          have HB0 : Hid (Below wx.heap.size wx wx) := hide (Below.refl _ _)
          clear hit1 hb1 HBk HITk
          have hc256 : (l.getD k 0).toNat < 256 := UInt8.toNat_lt _
          have hp256 := prv_lt l k
          obtain ⟨c, hc⟩ : ∃ c, (l.getD k 0).toNat = c := ⟨_, rfl⟩
          obtain ⟨p, hp⟩ : ∃ p, prv l k = p := ⟨_, rfl⟩
          rw [hc] at hnx hasc hc256
          rw [hp] at hp256 ⊢
          have HCC := hide hc
          have HPP := hide hp
          clear hc hp
          have HCL := hide (fun W => is_cl c W hc256)
          have HVW := hide (fun W => is_vw c W hc256)
          have HVP := hide (fun W => is_vw p W hp256)
          clear hasc hc256 hp256
          rcases hcl : clB c with _ | _
          · rw [hcl] at HCL
            have HCB := hide hcl
            clear hcl
            go_wp2_with fail
            refine (HCL.out _).mono ?_
            rintro e w4 ⟨rfl, hb4⟩
            have HB4 := hide (HB0.out.trans ((((Below.refl wx.heap.size wx).alloc (Nat.le_refl _) _).trans (hb4.mono (by simp))).mono HB0.out.size))
            clear hb4
            rcases hvb : vwB c with _ | _
            · rw [hvb] at HVW
              have HVB := hide hvb
              clear hvb
              go_wp2_with fail
              refine (HVW.out _).mono ?_
              rintro e w6 ⟨rfl, hb6⟩
              have HB6 := hide (HB4.out.trans ((((Below.refl w4.heap.size w4).alloc (Nat.le_refl _) _).trans (hb6.mono (by simp))).mono HB4.out.size))
              clear hb6
              go_wp2_with fail
              go_roundw
              case rel => exact ⟨k + 1, n, by omega, by omega, by first | rfl | go_num, by rw [prv_succ, HCC.out], hide (by unfold cntV; rw [HCC.out, HVB.out, ← HNC.out]; rfl), hide (by unfold anyTo; rw [HCK.out, clash_eq, HCC.out, HPP.out, HCB.out]; rfl), hide ((HB6.out.block it (iter_lt HIT1.out)).trans HIT1.out), hide (HB1.out.trans (HB6.out.mono HB1.out.size))⟩
              case measure => rw [itP_of ((HB6.out.block it (iter_lt HIT1.out)).trans HIT1.out), HMEA.out]; omega
            · rw [hvb] at HVW
              have HVB := hide hvb
              clear hvb
              go_wp2_with fail
              refine (HVW.out _).mono ?_
              rintro e w6 ⟨rfl, hb6⟩
              have HB6 := hide (HB4.out.trans ((((Below.refl w4.heap.size w4).alloc (Nat.le_refl _) _).trans (hb6.mono (by simp))).mono HB4.out.size))
              clear hb6
              go_wp2_with fail
              go_roundw
              case rel => exact ⟨k + 1, n + 1, by omega, by omega, by first | rfl | go_num, by rw [prv_succ, HCC.out], hide (by unfold cntV; rw [HCC.out, HVB.out, ← HNC.out]; rfl), hide (by unfold anyTo; rw [HCK.out, clash_eq, HCC.out, HPP.out, HCB.out]; rfl), hide ((HB6.out.block it (iter_lt HIT1.out)).trans HIT1.out), hide (HB1.out.trans (HB6.out.mono HB1.out.size))⟩
              case measure => rw [itP_of ((HB6.out.block it (iter_lt HIT1.out)).trans HIT1.out), HMEA.out]; omega
          · rw [hcl] at HCL
            have HCB := hide hcl
            clear hcl
            rcases hvp : vwB p with _ | _
            · rw [hvp] at HVP
              have HPB := hide hvp
              clear hvp
              go_wp2_with fail
              refine (HCL.out _).mono ?_
              rintro e w4 ⟨rfl, hb4⟩
              have HB4 := hide (HB0.out.trans ((((Below.refl wx.heap.size wx).alloc (Nat.le_refl _) _).trans (hb4.mono (by simp))).mono HB0.out.size))
              clear hb4
              go_wp2_with fail
              refine (HVP.out _).mono ?_
              rintro e w5 ⟨rfl, hb5⟩
              have HB5 := hide (HB4.out.trans ((((Below.refl w4.heap.size w4).alloc (Nat.le_refl _) _).trans (hb5.mono (by simp))).mono HB4.out.size))
              clear hb5
              go_wp2_with fail
              go_ret
              refine ⟨ret_int ?_, HB1.out.trans (HB5.out.mono HB1.out.size)⟩
              rw [← HE1.out, if_pos (anyTo_true hlt (by rw [clash_eq, HCC.out, HPP.out, HCB.out, HPB.out]; rfl))]
            · rw [hvp] at HVP
              have HPB := hide hvp
              clear hvp
              go_wp2_with fail
              refine (HCL.out _).mono ?_
              rintro e w4 ⟨rfl, hb4⟩
              have HB4 := hide (HB0.out.trans ((((Below.refl wx.heap.size wx).alloc (Nat.le_refl _) _).trans (hb4.mono (by simp))).mono HB0.out.size))
              clear hb4
              go_wp2_with fail
              refine (HVP.out _).mono ?_
              rintro e w5 ⟨rfl, hb5⟩
              have HB5 := hide (HB4.out.trans ((((Below.refl w4.heap.size w4).alloc (Nat.le_refl _) _).trans (hb5.mono (by simp))).mono HB4.out.size))
              clear hb5
              rcases hvb : vwB c with _ | _
              · rw [hvb] at HVW
                have HVB := hide hvb
                clear hvb
                go_wp2_with fail
                refine (HVW.out _).mono ?_
                rintro e w6 ⟨rfl, hb6⟩
                have HB6 := hide (HB5.out.trans ((((Below.refl w5.heap.size w5).alloc (Nat.le_refl _) _).trans (hb6.mono (by simp))).mono HB5.out.size))
                clear hb6
                go_wp2_with fail
                go_roundw
                case rel => exact ⟨k + 1, n, by omega, by omega, by first | rfl | go_num, by rw [prv_succ, HCC.out], hide (by unfold cntV; rw [HCC.out, HVB.out, ← HNC.out]; rfl), hide (by unfold anyTo; rw [HCK.out, clash_eq, HCC.out, HPP.out, HCB.out, HPB.out]; rfl), hide ((HB6.out.block it (iter_lt HIT1.out)).trans HIT1.out), hide (HB1.out.trans (HB6.out.mono HB1.out.size))⟩
                case measure => rw [itP_of ((HB6.out.block it (iter_lt HIT1.out)).trans HIT1.out), HMEA.out]; omega
              · rw [hvb] at HVW
                have HVB := hide hvb
                clear hvb
                go_wp2_with fail
                refine (HVW.out _).mono ?_
                rintro e w6 ⟨rfl, hb6⟩
                have HB6 := hide (HB5.out.trans ((((Below.refl w5.heap.size w5).alloc (Nat.le_refl _) _).trans (hb6.mono (by simp))).mono HB5.out.size))
                clear hb6
                go_wp2_with fail
                go_roundw
                case rel => exact ⟨k + 1, n + 1, by omega, by omega, by first | rfl | go_num, by rw [prv_succ, HCC.out], hide (by unfold cntV; rw [HCC.out, HVB.out, ← HNC.out]; rfl), hide (by unfold anyTo; rw [HCK.out, clash_eq, HCC.out, HPP.out, HCB.out, HPB.out]; rfl), hide ((HB6.out.block it (iter_lt HIT1.out)).trans HIT1.out), hide (HB1.out.trans (HB6.out.mono HB1.out.size))⟩
                case measure => rw [itP_of ((HB6.out.block it (iter_lt HIT1.out)).trans HIT1.out), HMEA.out]; omega
        · obtain rfl : k = R.size := by omega
          have hnx := fun ty => Lib.run_next_end_at (P := Tryd.prog) wr it R R.size ty HITk.out (by omega)
          have hck := HCK.out
          have HE2 : Hid ((if novw l = true then (100 : Int) else 0) = E) := hide (by rw [← HE1.out, HCK.out, if_neg Bool.false_ne_true])
          clear hck HE1
          have hcn := novw_cnt l
          rw [HLEN.out, ← HNC.out] at hcn
          by_cases hn0 : n = 0
          · subst hn0
            have HE3 : Hid ((100 : Int) = E) := hide (by rw [← HE2.out, hcn]; rfl)
            clear hcn HE2
            go_wp2_with fail
            go_ret
            exact ⟨ret_int HE3.out, HBk.out⟩
          · have HE3 : Hid ((0 : Int) = E) := hide (by rw [← HE2.out, hcn, decide_eq_false hn0]; rfl)
            have hn1 : ((n : Int) == 0) = false := by rw [beq_eq_false_iff_ne]; omega
            clear hcn HE2
            go_wp2_with fail
            go_ret
            exact ⟨ret_int HE3.out, HBk.out⟩
end Go.Proofs.YtlkkkgpcjdemdaaDoor
/- Song, plain: syllables. -/
namespace Go.Proofs.YtlkkkgpcjdemdaaDoor
open Go Go.RowKit Go.Shelf
set_option maxHeartbeats 2000000
set_option maxRecDepth 100000
/-- what is left of a tail without its closings -/
def opn (t : List UInt8) : List UInt8 := Lib.trimLeftS t [77, 72]
theorem opn_le (t : List UInt8) : (opn t).length ≤ t.length := by
  unfold opn Lib.trimLeftS
  exact (List.dropWhile_sublist _).length_le
def tlX (h v t : List UInt8) : List UInt8 := (h ++ v) ++ t
/-- is something kept for the next syllable? -/
def tlK (last : Bool) (t : List UInt8) : Bool := decide (0 < (opn t).length) && !last
def tlT (last : Bool) (h v t : List UInt8) : List UInt8 := if tlK last t then (tlX h v t).dropLast else tlX h v t
def tlN (last : Bool) (h v t : List UInt8) : List UInt8 := if tlK last t then (tlX h v t).drop ((tlX h v t).length - 1) else []
def tlG (v t : List UInt8) : Bool := lnB (v.getD 0 0).toNat || (decide ((opn t).length < t.length) || decide (2 ≤ (opn t).length))
/-- a syllable: its letters, and whether it is heavy -/
abbrev Syl := List UInt8 × Bool
def tlS (last : Bool) (h v t : List UInt8) : Syl := (tlT last h v t, tlG v t)
/-- the syllables of letters, from a state on -/
def syl : List UInt8 → List UInt8 → List UInt8 → List UInt8 → List Syl
  | [], h, v, t => [tlS true h v t]
  | c :: r, h, v, t =>
    if vwB c.toNat then
      if v = [] then syl r h [c] t else tlS false h v t :: syl r (tlN false h v t) [c] []
    else if v = [] then syl r (h ++ [c]) v t else syl r h v (t ++ [c])
/-- the letters of a line, without its spaces -/
def ltr (l : List UInt8) : List UInt8 := l.filter fun b => b != 32
def sylL (l : List UInt8) : List Syl := syl (ltr l) [] [] []
def wgB (g : Bool) : Int := if g then 103 else 108
def sylE (x : Syl) : Array Value := #[.agg #[.string ⟨x.1.toArray⟩, .int .u8 (wgB x.2)]]
theorem index_byte (c : UInt8) : ∀ l : List UInt8, Lib.index l [c] = Lib.indexByte l c
  | [] => rfl
  | b :: l => by
    unfold Lib.index Lib.indexByte
    rw [index_byte c l]
    have e : [c].isPrefixOf (b :: l) = (b == c) := by
      simp only [List.isPrefixOf, Bool.and_true]
      rw [Bool.eq_iff_iff, beq_iff_eq, beq_iff_eq]
      exact eq_comm
    rw [e]
theorem replaceK_ltr : ∀ (n : Nat) (l : List UInt8), l.length ≤ n → Lib.replaceK [32] [] (Lib.count l [32]) l = ltr l := by
  intro n
  induction n with
  | zero =>
    intro l hl
    obtain rfl : l = [] := List.eq_nil_of_length_eq_zero (by omega)
    rfl
  | succ n ih =>
    intro l hl
    rcases (by have := Lib.index_ge l [32]; omega : Lib.index l [32] = -1 ∨ 0 ≤ Lib.index l [32]) with h | h
    · rw [Lib.count_miss h]
      unfold Lib.replaceK ltr
      rw [index_byte] at h
      have h1 := Lib.indexByte_none h
      symm
      rw [List.filter_eq_self]
      intro x hx
      obtain ⟨k, hk, rfl⟩ := List.getElem_of_mem hx
      have h2 := h1 k
      rw [List.getElem?_eq_getElem hk] at h2
      simpa using h2
    · obtain ⟨i, hi⟩ := Int.eq_ofNat_of_zero_le h
      have h0 := hi
      rw [index_byte] at h0
      obtain ⟨h1, h2⟩ := Lib.indexByte_some h0
      have hil : i < l.length := (List.getElem?_eq_some_iff.1 h1).1
      rw [Lib.count_hit (by simp) hi, Nat.add_comm, Lib.replaceK_hit _ _ _ _ i hi]
      show l.take i ++ [] ++ Lib.replaceK [32] [] (Lib.count (l.drop (i + 1)) [32]) (l.drop (i + 1)) = ltr l
      rw [ih _ (by simp; omega), List.append_nil]
      have e : l = l.take i ++ 32 :: l.drop (i + 1) := by
        have h3 : l[i] = 32 := (List.getElem?_eq_some_iff.1 h1).2
        rw [← h3, List.getElem_cons_drop, List.take_append_drop]
      conv => rhs; rw [e]
      unfold ltr
      rw [List.filter_append, List.filter_cons_of_neg (by simp)]
      congr 1
      symm
      rw [List.filter_eq_self]
      intro x hx
      obtain ⟨k, hk, rfl⟩ := List.getElem_of_mem hx
      rw [List.length_take] at hk
      have h4 := h2 k (by omega)
      rw [List.getElem?_eq_getElem (by omega)] at h4
      rw [List.getElem_take]
      simpa using h4
theorem replace_one (l : List UInt8) : Lib.replaceAll l [32] [] = ltr l := by
  unfold Lib.replaceAll Lib.replace
  rw [if_neg (by decide)]
  have : Lib.replaceNum l [32] (-1) = Lib.count l [32] := by unfold Lib.replaceNum; rw [if_pos (.inl (by omega))]
  rw [this]
  exact replaceK_ltr _ l (Nat.le_refl _)
/-- letters of a valid line -/
theorem ltr_le (l : List UInt8) : (ltr l).length ≤ l.length := (List.filter_sublist).length_le
theorem bExtra : Go.Proofs.Builder.Extra Tryd.prog lays155_ren := {
  sizeBuilder := by kernel_rfl
  liesBuilder := by kernel_rfl
  t5 := Tryd.underlying5
  a5 := Tryd.isAgg5
  z5 := Tryd.sizeOf5
  v5 := Tryd.zeroValue5
  infoByte := by kernel_rfl
  cellsByte := by kernel_rfl
  sizeByte := by kernel_rfl
  neB5 := by decide }
theorem letters_any (s : ByteArray) (l : List UInt8) (hl : s.data.toList = l) (hs : s.size ≤ 1000) (w : World) (hM : ML w) :
    Calls Tryd.prog 102 #[.string s, .string ⟨#[32]⟩, .string ⟨#[]⟩] w fun e w' => e = .returned (.string ⟨(ltr l).toArray⟩) ∧ Below w.heap.size w w' := by
  subst hl
  obtain ⟨m, hm⟩ := hM
  refine (Any.strings_ReplaceAll lays155 bExtra s ⟨#[32]⟩ ⟨#[]⟩ m w (by omega) hm (by decide) (by show s.size + _ * 0 ≤ _; omega)).mono ?_
  rintro e w' ⟨rfl, hb⟩
  refine ⟨?_, hb⟩
  show Ending.returned (Value.string ⟨(Lib.replaceAll s.data.toList [32] []).toArray⟩) = _
  rw [replace_one]
end Go.Proofs.YtlkkkgpcjdemdaaDoor
/- Song: the closure of syllables that tells one, walked. -/
namespace Go.Proofs.YtlkkkgpcjdemdaaDoor
open Go Go.RowKit Go.Shelf
attribute [local go_sem] Oper.semAt_some
set_option maxHeartbeats 8000000
set_option maxRecDepth 100000
theorem YieldAt.any {F : Fence} {m k : Nat} {P : Program} {l : Nat} {args : Array Value} {W : World} {R : Ending → World → Prop} (hr : ∀ j, F.room j) (h : YieldAt F m P l args W R) : YieldAt F k P l args W R := by
  obtain ⟨fn, tmps, assign, body, h1, h2, h3⟩ := h
  exact ⟨fn, tmps, assign, body, h1, h2, fun c cs _ => h3 c cs (hr _)⟩
theorem OutK.setN {a b : Nat} {W W' : World} (h : OutK a b W W') {g : Nat} (hg : W.heap.size ≤ g) (i : Nat) (v : Value) : OutK a b W (W'.setCell ⟨g, i, none⟩ v) :=
  ⟨h.os, h.tape, h.output, by rw [size_set]; exact h.size, fun k hk hn => (Below.heap_setCell _ _ _ k (fun e => by dsimp only at e; omega)).trans (h.block k hk hn)⟩
theorem OutK.setO {a b : Nat} {W W' : World} (h : OutK a b W W') {g : Nat} (h1 : a ≤ g) (h2 : g < b) (i : Nat) (v : Value) : OutK a b W (W'.setCell ⟨g, i, none⟩ v) := h.trans (OutK.set W' h1 h2 i v)
theorem OutK.low {a b : Nat} {W W' W2 : World} (h : OutK a b W W') (hb : Below W'.heap.size W' W2) : OutK a b W W2 := h.trans (OutK.of_below hb)
/-- the cells of the iterator: the yield, head, vowel, tail -/
structure SyB (W : World) (N : Nat) (l : Nat) (h v t : List UInt8) : Prop where
  y : Blk W N 155 #[.func (.yield l) #[] #[]]
  h : Blk W (N + 1) 9 #[.string ⟨h.toArray⟩]
  v : Blk W (N + 2) 9 #[.string ⟨v.toArray⟩]
  t : Blk W (N + 3) 9 #[.string ⟨t.toArray⟩]
theorem SyB.ext {W W' : World} {N l : Nat} {h v t : List UInt8} (k : SyB W N l h v t) (hb : Below W.heap.size W W') : SyB W' N l h v t := ⟨k.y.ext hb, k.h.ext hb, k.v.ext hb, k.t.ext hb⟩
theorem rune_one (c : UInt8) (hc : c.toNat < 128) (W : World) :
    ∃ cp w', (convert 9 156 (.string ⟨#[c]⟩)).run Tryd.prog W = .ok (.slice (some ⟨W.heap.size, 0, none⟩) 1 cp) w' ∧ w'.cell? ⟨W.heap.size, 0, none⟩ = some (.int .i32 (c.toNat : Int)) ∧ Below W.heap.size W w' := by
  have hr : Conv.runesFrom ⟨#[c]⟩ (⟨#[c]⟩ : ByteArray).size 0 #[] = #[.int .i32 (c.toNat : Int)] := by
    show Conv.runesFrom ⟨#[c]⟩ 1 0 #[] = _
    unfold Conv.runesFrom
    rw [if_pos (show 0 < (⟨#[c]⟩ : ByteArray).size from Nat.zero_lt_one), decode_ascii ⟨#[c]⟩ 0 (show 0 < (⟨#[c]⟩ : ByteArray).size from Nat.zero_lt_one) hc]
    unfold Conv.runesFrom
    rfl
  have h := run_runes_of_string (P := Tryd.prog) W 9 156 21 ⟨#[c]⟩ Tryd.underlying9 Tryd.underlying156 Tryd.underlying21 (by rw [hr]; show 1 ≤ 70368744177664; omega)
  rw [hr] at h
  refine ⟨_, _, h, ?_, ((Below.refl W.heap.size W).drew).alloc (Nat.le_refl _) _⟩
  refine Eq.trans (cell_of_row _ W.heap.size 0 _ 21 (0, 0) (heap_alloc_new W.drew _)) ?_
  rw [Array.getElem?_append_left (show 0 < (#[Value.int .i32 (c.toNat : Int)] : Array Value).size from Nat.zero_lt_one)]
  rfl
theorem trimSfx (x : List UInt8) (hx : x ≠ []) (hs : x.length ≤ 1000) (w : World) :
    Calls Tryd.prog 101 #[.string ⟨x.toArray⟩, .string ⟨(x.drop (x.length - 1)).toArray⟩] w fun e w' => e = .returned (.string ⟨x.dropLast.toArray⟩) ∧ w = w' := by
  refine (Any.strings_TrimSuffix lays102 ⟨x.toArray⟩ ⟨(x.drop (x.length - 1)).toArray⟩ w (by show x.toArray.size ≤ _; simp; omega)).mono ?_
  rintro e w' ⟨rfl, rfl⟩
  refine ⟨?_, rfl⟩
  show Ending.returned (Value.string ⟨(Lib.trimSuffix x (x.drop (x.length - 1))).toArray⟩) = _
  have h1 : 0 < x.length := List.length_pos_iff.2 hx
  unfold Lib.trimSuffix Lib.hasSuffix
  rw [if_pos (by rw [List.isSuffixOf_iff_suffix]; exact List.drop_suffix _ _), List.dropLast_eq_take, List.length_drop]
  congr 5
  omega
theorem trimL (t : List UInt8) (w : World) :
    Calls Tryd.prog 100 #[.string ⟨t.toArray⟩, .string ⟨#[77, 72]⟩] w fun e w' => e = .returned (.string ⟨(opn t).toArray⟩) ∧ Below w.heap.size w w' :=
  Any.strings_TrimLeft_laid lays161 (by kernel_rfl) ⟨t.toArray⟩ ⟨#[77, 72]⟩ w (by decide) (ascii_of_all (by decide))
theorem sizeA (x : List UInt8) : (⟨x.toArray⟩ : ByteArray).size = x.length := by show x.toArray.size = _; simp
theorem extr (x : List UInt8) (k : Nat) : (⟨x.toArray⟩ : ByteArray).extract k (⟨x.toArray⟩ : ByteArray).size = ⟨(x.drop k).toArray⟩ := by
  rw [Lib.extract_from]
theorem tell_in (F : Fence) (n : Nat) (hF : ∀ f, F.fn f) (hro : F.round = none) (hroom : ∀ j, F.room j) (hwd : ∀ {m f args w R}, Calls Tryd.prog f args w R → CallsIn F m Tryd.prog f args w R) (hn : 1 ≤ n)
    (l N M : Nat) (last : Bool) (h t : List UInt8) (c : UInt8) (W : World) (Q : Ending → World → Prop) (hQ : ∀ e w, Q e w → ∃ b, e = .returned (.bool b)) (hS : SyB W N l h [c] t) (hc : c.toNat < 128) (hlen : h.length + t.length ≤ 900)
    (hNM : N + 4 ≤ M) (hM : M ≤ W.heap.size)
    (hY : ∀ W1, OutK N M W W1 → SyB W1 N l (tlN last h [c] t) [] [] → YieldAt F n Tryd.prog l (sylE (tlS last h [c] t)) W1 Q) :
    CallsIn F n Tryd.prog 99 #[.bool last, .pointer (some ⟨N + 3, 0, none⟩), .pointer (some ⟨N + 1, 0, none⟩), .pointer (some ⟨N + 2, 0, none⟩), .pointer (some ⟨N, 0, none⟩)] W Q := by
  have HY := hide hY
  have HS := hide hS
  have HQ := hide hQ
  have HTL := hide (fun w => trimL t w)
  have HNM := hide (And.intro hNM hM)
  clear hY
  have HXL : Hid ((tlX h [c] t).length = h.length + 1 + t.length) := hide (by unfold tlX; simp; omega)
  have ha1 : ∀ w, (Op.stringOp .add (⟨h.toArray⟩ : ByteArray) ⟨#[c]⟩).run Tryd.prog w = .ok (.string ⟨(h ++ [c]).toArray⟩) w := fun w => run_string_add_lists (P := Tryd.prog) w h [c] (by omega) (by simp)
  have ha2 : ∀ w, (Op.stringOp .add (⟨(h ++ [c]).toArray⟩ : ByteArray) ⟨t.toArray⟩).run Tryd.prog w = .ok (.string ⟨(tlX h [c] t).toArray⟩) w := fun w => run_string_add_lists (P := Tryd.prog) w (h ++ [c]) t (by simp; omega) (by omega)
  have HTX := hide (fun w => trimSfx (tlX h [c] t) (by unfold tlX; simp) (by rw [HXL.out]; omega) w)
  have hex := extr (tlX h [c] t) ((tlX h [c] t).length - 1)
  have hxs := sizeA (tlX h [c] t)
  have HIS := hide (fun W => is_ln c.toNat W (by omega))
  have HRU := hide (fun W => rune_one c hc W)
  obtain ⟨O, hO⟩ : ∃ O : ByteArray, (⟨(opn t).toArray⟩ : ByteArray) = O := ⟨_, rfl⟩
  obtain ⟨T, hT⟩ : ∃ O : ByteArray, (⟨t.toArray⟩ : ByteArray) = O := ⟨_, rfl⟩
  obtain ⟨H, hH⟩ : ∃ O : ByteArray, (⟨h.toArray⟩ : ByteArray) = O := ⟨_, rfl⟩
  obtain ⟨V, hV⟩ : ∃ O : ByteArray, (⟨#[c]⟩ : ByteArray) = O := ⟨_, rfl⟩
  obtain ⟨HV, hHV⟩ : ∃ O : ByteArray, (⟨(h ++ [c]).toArray⟩ : ByteArray) = O := ⟨_, rfl⟩
  obtain ⟨X, hX⟩ : ∃ O : ByteArray, (⟨(tlX h [c] t).toArray⟩ : ByteArray) = O := ⟨_, rfl⟩
  obtain ⟨Y, hY⟩ : ∃ O : ByteArray, (⟨(tlX h [c] t).dropLast.toArray⟩ : ByteArray) = O := ⟨_, rfl⟩
  obtain ⟨Z, hZ⟩ : ∃ O : ByteArray, (⟨((tlX h [c] t).drop ((tlX h [c] t).length - 1)).toArray⟩ : ByteArray) = O := ⟨_, rfl⟩
  have HOS : Hid (O.size = (opn t).length) := hide (by rw [← hO, sizeA])
  have HTS : Hid (T.size = t.length) := hide (by rw [← hT, sizeA])
  have HSS : Hid (∀ W', SyB W' N l h [c] t → W'.cell? ⟨N, 0, none⟩ = some (.func (.yield l) #[] #[]) ∧ W'.cell? ⟨N + 1, 0, none⟩ = some (.string H) ∧ W'.cell? ⟨N + 2, 0, none⟩ = some (.string V) ∧ W'.cell? ⟨N + 3, 0, none⟩ = some (.string T)) := hide fun W' k =>
    ⟨(bx1 k.y).2, by rw [← hH]; exact (bx1 k.h).2, by rw [← hV]; exact (bx1 k.v).2, by rw [← hT]; exact (bx1 k.t).2⟩
  rw [hO, hT] at HTL
  rw [hH, hV, hHV] at ha1
  rw [hHV, hT, hX] at ha2
  rw [hX, hY, hZ] at HTX
  rw [hX] at hxs
  rw [hX, hZ, hxs] at hex
  rw [hV] at HRU
  have hxl : (tlX h [c] t).length = X.size := hxs.symm
  rw [hxl] at hex HXL
  have hx1 : 1 ≤ X.size := by have := HXL.out; omega
  have hx2 : X.size ≤ 1000 := by have := HXL.out; omega
  have i1 : (1 : Int) ≤ (X.size : Int) := by omega
  have i2 : (X.size : Int) - 1 ≤ (X.size : Int) := by omega
  have i3 : ((X.size : Int) - 1).toNat = X.size - 1 := by omega
  have HYY : Hid (∀ W1, OutK N M W W1 → SyB W1 N l (tlN last h [c] t) [] [] → YieldAt F n Tryd.prog l #[.agg #[.string (if tlK last t then Y else X), .int .u8 (wgB (lnB c.toNat || (decide (O.size < T.size) || decide (2 ≤ O.size))))]] W1 Q) := hide fun W1 h1 h2 => by
    have k := HY.out W1 h1 h2
    unfold sylE tlS tlT tlG at k
    rw [← hY, ← hX, HOS.out, HTS.out]
    cases hk : tlK last t
    · rw [hk] at k
      exact k
    · rw [hk] at k
      exact k
  have HZZ : Hid (tlK last t = true → Z = ⟨(tlN last h [c] t).toArray⟩) := hide fun hk => by unfold tlN; rw [if_pos hk, ← hZ]
  have HTK : Hid (tlK last t = (decide (0 < O.size) && !last)) := hide (by unfold tlK; rw [HOS.out])
  clear hO hT hH hV hHV hX hY hZ hxl hxs HY HXL HOS HTS hlen hc hNM hM hQ
  obtain ⟨cy, ch, cv, ct⟩ := HSS.out W hS
  have hN : N + 4 ≤ W.heap.size := by have := HNM.out; omega
  clear hS
  refine callsIn_of_wp Tryd.func99 rfl (hF _) ?_ hro
  simp only [Tryd.ntmps99, List.size_toArray, List.length_cons, List.length_nil, Nat.reduceAdd, Nat.reduceSub, Array.replicate_succ, Array.replicate_zero, List.push_toArray, List.append_toArray, List.nil_append, List.cons_append]
  gi_wp2_with fail
  (with_reducible refine (hwd (HTL.out _)).mono ?_)
  rintro e w1 ⟨rfl, hb1⟩
  have HS1 := hide (HS.out.ext hb1)
  have HK1 := hide (OutK.of_below (a := N) (b := M) hb1)
  have hz1 := hb1.size
  clear hb1 cy ch cv ct
  obtain ⟨cy, ch, cv, ct⟩ := HSS.out _ HS1.out
  have hbA := (Below.refl w1.heap.size w1).alloc (Nat.le_refl _) (.cells #[.string X, .int .u8 108] 118)
  have KA := Blk.new w1 118 #[.string X, .int .u8 108]
  have HSA := HS1.out.ext hbA
  have cvA : (w1.alloc (.cells #[.string X, .int .u8 108] 118)).cell? ⟨N + 2, 0, none⟩ = some (.string V) := (HSS.out _ HSA).2.2.1
  obtain ⟨cp, w3, hcv, hcc, hb3⟩ := HRU.out (w1.alloc (.cells #[.string X, .int .u8 108] 118))
  simp only [World.size_alloc] at hcv hcc
  have HS3 := hide (HSA.ext hb3)
  have HK3 := hide ((HK1.out.low hbA).low hb3)
  have KB3 := hide (KA.ext hb3)
  clear HSA hbA KA hb3
  gi_wp2_with fail
  (with_reducible refine (hwd (HIS.out _)).mono ?_)
  rintro e w4 ⟨rfl, hb4⟩
  have hb5 := ((Below.refl w3.heap.size w3).alloc (Nat.le_refl _) (.cells #[.string ⟨#[65, 73, 85, 101, 111]⟩] 9)).trans (hb4.mono (by simp))
  have HS4 := hide (HS3.out.ext hb5)
  have HK4 := hide (HK3.out.low hb5)
  have KB4 := hide (KB3.out.ext hb5)
  clear hb4 hb5 HS1 HK1 HS3 HK3 KB3 hcv hcc cvA cy ch cv ct
  obtain ⟨cy, ch, cv, ct⟩ := HSS.out _ HS4.out
  obtain ⟨s, hs⟩ : ∃ s, w1.heap.size = s := ⟨_, rfl⟩
  rw [hs] at KB4 ⊢
  have HSZ : Hid (N + 4 ≤ s ∧ W.heap.size ≤ s) := hide (by rw [← hs]; omega)
  clear hs hz1
  have kb := bx2 KB4.out
  have f0 := HS4.out.h.frozen 0
  have f1 := HS4.out.v.frozen 0
  have f2 := HS4.out.t.frozen 0
  have f3 := KB4.out.frozen 0
  have f4 := KB4.out.frozen 1
  obtain ⟨zs, k0, k1⟩ := kb
  have n1 : N + 1 ≠ s := by have := HSZ.out; omega
  have n2 : N + 2 ≠ s := by have := HSZ.out; omega
  have n3 : N + 3 ≠ s := by have := HSZ.out; omega
  have n4 : N ≠ s := by have := HSZ.out; omega
  have z4 : N + 4 ≤ w4.heap.size := by have := HSZ.out; omega
  have SyB4 : ∀ W', (W' = w4 ∨ ∃ b, W' = w4.setCell ⟨s, 1, none⟩ b) → SyB W' N l h [c] t := by
    rintro W' (rfl | ⟨b, rfl⟩)
    · exact HS4.out
    · have K := HS4.out
      exact ⟨K.y.far (by dsimp only; omega) _, K.h.far (by dsimp only; omega) _, K.v.far (by dsimp only; omega) _, K.t.far (by dsimp only; omega) _⟩
  rcases hln : lnB c.toNat with _ | _
  · rw [hln] at HYY
    clear hln
    by_cases hot : O.size < T.size
    · have hot' : (O.size : Int) < (T.size : Int) := by omega
      have he : (false || (decide (O.size < T.size) || decide (2 ≤ O.size))) = true := by rw [decide_eq_true hot]; rfl
      have HEE := hide he
      clear he
      by_cases ho : 0 < O.size
      · have ho' : (0 : Int) < (O.size : Int) := by omega
        rcases (by cases last <;> simp : last = false ∨ last = true) with hL | hL
        · have hk : tlK last t = true := by rw [HTK.out, hL]; simp [ho]
          have HKK := hide hk
          clear hk
          have ho5 : OutK N M W ((((((w4.setCell ⟨s, 1, none⟩ (.int .u8 103)).setCell ⟨N + 1, 0, none⟩ (.string ⟨#[]⟩)).setCell ⟨N + 1, 0, none⟩ (.string Z)).setCell ⟨s, 0, none⟩ (.string Y)).setCell ⟨N + 2, 0, none⟩ (.string ⟨#[]⟩)).setCell ⟨N + 3, 0, none⟩ (.string ⟨#[]⟩)) := ((((((HK4.out.setN (g := s) HSZ.out.2 1 _).setO (g := N + 1) (by omega) (by have := HNM.out; omega) 0 _).setO (g := N + 1) (by omega) (by have := HNM.out; omega) 0 _).setN (g := s) HSZ.out.2 0 _).setO (g := N + 2) (by omega) (by have := HNM.out; omega) 0 _).setO (g := N + 3) (by omega) (by have := HNM.out; omega) 0 _)
          have hs5 : SyB ((((((w4.setCell ⟨s, 1, none⟩ (.int .u8 103)).setCell ⟨N + 1, 0, none⟩ (.string ⟨#[]⟩)).setCell ⟨N + 1, 0, none⟩ (.string Z)).setCell ⟨s, 0, none⟩ (.string Y)).setCell ⟨N + 2, 0, none⟩ (.string ⟨#[]⟩)).setCell ⟨N + 3, 0, none⟩ (.string ⟨#[]⟩)) N l (tlN last h [c] t) [] [] := by
            have K : SyB (w4.setCell ⟨s, 1, none⟩ (.int .u8 103)) N l h [c] t := SyB4 _ (.inr ⟨_, rfl⟩)
            refine ⟨((((K.y.far (by dsimp only; omega) _).far (by dsimp only; omega) _).far (by dsimp only; omega) _).far (by dsimp only; omega) _).far (by dsimp only; omega) _, ?_, ((((K.v.far (by dsimp only; omega) _).far (by dsimp only; omega) _).far (by dsimp only; omega) _).set_ 0 _).far (by dsimp only; omega) _, ((((K.t.far (by dsimp only; omega) _).far (by dsimp only; omega) _).far (by dsimp only; omega) _).far (by dsimp only; omega) _).set_ 0 _⟩
            have := ((((K.h.set_ 0 (.string ⟨#[]⟩)).set_ 0 (.string Z)).far (p := ⟨s, 0, none⟩) (by dsimp only; omega) (.string Y)).far (p := ⟨N + 2, 0, none⟩) (by dsimp only; omega) (.string ⟨#[]⟩)).far (p := ⟨N + 3, 0, none⟩) (by dsimp only; omega) (.string ⟨#[]⟩)
            rw [← HZZ.out HKK.out]
            exact this
          have hY5 : YieldAt F (n - 1) Tryd.prog l #[.agg #[.string Y, .int .u8 103]] ((((((w4.setCell ⟨s, 1, none⟩ (.int .u8 103)).setCell ⟨N + 1, 0, none⟩ (.string ⟨#[]⟩)).setCell ⟨N + 1, 0, none⟩ (.string Z)).setCell ⟨s, 0, none⟩ (.string Y)).setCell ⟨N + 2, 0, none⟩ (.string ⟨#[]⟩)).setCell ⟨N + 3, 0, none⟩ (.string ⟨#[]⟩)) Q := by
            have k := HYY.out _ ho5 hs5
            have e1 : (if tlK last t = true then Y else X) = Y := by rw [HKK.out]; rfl
            rw [e1, HEE.out] at k
            exact YieldAt.any hroom k
          obtain ⟨fn, tmps, assign, body, hy, hR⟩ := hY5
          have HR := hide hR
          clear hR ho5 hs5
          have cz : (((w4.setCell ⟨s, 1, none⟩ (.int .u8 103)).setCell ⟨N + 1, 0, none⟩ (.string ⟨#[]⟩)).setCell ⟨N + 1, 0, none⟩ (.string Z)).cell? ⟨N + 1, 0, none⟩ = some (.string Z) := by
            have K : SyB (w4.setCell ⟨s, 1, none⟩ (.int .u8 103)) N l h [c] t := SyB4 _ (.inr ⟨_, rfl⟩)
            exact (bx1 ((K.h.set_ 0 (.string ⟨#[]⟩)).set_ 0 (.string Z))).2
          (try dsimp only)
          (repeat (first | go_values | gi_guarded | gi_step | gi_upon))
          (with_reducible refine (hwd (HTX.out _)).mono ?_)
          rintro e w6 ⟨rfl, rfl⟩
          (try dsimp only)
          (repeat (first | go_values | gi_guarded | gi_step | gi_upon))
          refine HR.out.mono ?_
          rintro e W3 hq
          obtain ⟨b, rfl⟩ := HQ.out _ _ hq
          have HQ3 := hide hq
          clear hq HR
          (try dsimp only)
          (repeat (first | go_values | gi_guarded | gi_step | gi_upon))
          first | exact HQ3.out | (go_ret; exact HQ3.out)
        · have hk : tlK last t = false := by rw [HTK.out, hL]; simp
          have HKK := hide hk
          clear hk
          have ho5 : OutK N M W ((((w4.setCell ⟨s, 1, none⟩ (.int .u8 103)).setCell ⟨N + 1, 0, none⟩ (.string ⟨#[]⟩)).setCell ⟨N + 2, 0, none⟩ (.string ⟨#[]⟩)).setCell ⟨N + 3, 0, none⟩ (.string ⟨#[]⟩)) := ((((HK4.out.setN (g := s) HSZ.out.2 1 _).setO (g := N + 1) (by omega) (by have := HNM.out; omega) 0 _).setO (g := N + 2) (by omega) (by have := HNM.out; omega) 0 _).setO (g := N + 3) (by omega) (by have := HNM.out; omega) 0 _)
          have hs5 : SyB ((((w4.setCell ⟨s, 1, none⟩ (.int .u8 103)).setCell ⟨N + 1, 0, none⟩ (.string ⟨#[]⟩)).setCell ⟨N + 2, 0, none⟩ (.string ⟨#[]⟩)).setCell ⟨N + 3, 0, none⟩ (.string ⟨#[]⟩)) N l (tlN last h [c] t) [] [] := by
            unfold tlN
            rw [HKK.out]
            have K : SyB (w4.setCell ⟨s, 1, none⟩ (.int .u8 103)) N l h [c] t := SyB4 _ (.inr ⟨_, rfl⟩)
            exact ⟨((K.y.far (by dsimp only; omega) _).far (by dsimp only; omega) _).far (by dsimp only; omega) _, ((K.h.set_ 0 _).far (by dsimp only; omega) _).far (by dsimp only; omega) _, ((K.v.far (by dsimp only; omega) _).set_ 0 _).far (by dsimp only; omega) _, ((K.t.far (by dsimp only; omega) _).far (by dsimp only; omega) _).set_ 0 _⟩
          have hY5 : YieldAt F (n - 1) Tryd.prog l #[.agg #[.string X, .int .u8 103]] ((((w4.setCell ⟨s, 1, none⟩ (.int .u8 103)).setCell ⟨N + 1, 0, none⟩ (.string ⟨#[]⟩)).setCell ⟨N + 2, 0, none⟩ (.string ⟨#[]⟩)).setCell ⟨N + 3, 0, none⟩ (.string ⟨#[]⟩)) Q := by
            have k := HYY.out _ ho5 hs5
            have e1 : (if tlK last t = true then Y else X) = X := by rw [HKK.out]; rfl
            rw [e1, HEE.out] at k
            exact YieldAt.any hroom k
          obtain ⟨fn, tmps, assign, body, hy, hR⟩ := hY5
          have HR := hide hR
          clear hR ho5 hs5
          (try dsimp only)
          (repeat (first | go_values | gi_guarded | gi_step | gi_upon))
          refine HR.out.mono ?_
          rintro e W3 hq
          obtain ⟨b, rfl⟩ := HQ.out _ _ hq
          have HQ3 := hide hq
          clear hq HR
          (try dsimp only)
          (repeat (first | go_values | gi_guarded | gi_step | gi_upon))
          first | exact HQ3.out | (go_ret; exact HQ3.out)
      · have ho' : ¬ (0 : Int) < (O.size : Int) := by omega
        have hk : tlK last t = false := by rw [HTK.out]; simp [ho]
        have HKK := hide hk
        clear hk
        have ho5 : OutK N M W ((((w4.setCell ⟨s, 1, none⟩ (.int .u8 103)).setCell ⟨N + 1, 0, none⟩ (.string ⟨#[]⟩)).setCell ⟨N + 2, 0, none⟩ (.string ⟨#[]⟩)).setCell ⟨N + 3, 0, none⟩ (.string ⟨#[]⟩)) := ((((HK4.out.setN (g := s) HSZ.out.2 1 _).setO (g := N + 1) (by omega) (by have := HNM.out; omega) 0 _).setO (g := N + 2) (by omega) (by have := HNM.out; omega) 0 _).setO (g := N + 3) (by omega) (by have := HNM.out; omega) 0 _)
        have hs5 : SyB ((((w4.setCell ⟨s, 1, none⟩ (.int .u8 103)).setCell ⟨N + 1, 0, none⟩ (.string ⟨#[]⟩)).setCell ⟨N + 2, 0, none⟩ (.string ⟨#[]⟩)).setCell ⟨N + 3, 0, none⟩ (.string ⟨#[]⟩)) N l (tlN last h [c] t) [] [] := by
          unfold tlN
          rw [HKK.out]
          have K : SyB (w4.setCell ⟨s, 1, none⟩ (.int .u8 103)) N l h [c] t := SyB4 _ (.inr ⟨_, rfl⟩)
          exact ⟨((K.y.far (by dsimp only; omega) _).far (by dsimp only; omega) _).far (by dsimp only; omega) _, ((K.h.set_ 0 _).far (by dsimp only; omega) _).far (by dsimp only; omega) _, ((K.v.far (by dsimp only; omega) _).set_ 0 _).far (by dsimp only; omega) _, ((K.t.far (by dsimp only; omega) _).far (by dsimp only; omega) _).set_ 0 _⟩
        have hY5 : YieldAt F (n - 1) Tryd.prog l #[.agg #[.string X, .int .u8 103]] ((((w4.setCell ⟨s, 1, none⟩ (.int .u8 103)).setCell ⟨N + 1, 0, none⟩ (.string ⟨#[]⟩)).setCell ⟨N + 2, 0, none⟩ (.string ⟨#[]⟩)).setCell ⟨N + 3, 0, none⟩ (.string ⟨#[]⟩)) Q := by
          have k := HYY.out _ ho5 hs5
          have e1 : (if tlK last t = true then Y else X) = X := by rw [HKK.out]; rfl
          rw [e1, HEE.out] at k
          exact YieldAt.any hroom k
        obtain ⟨fn, tmps, assign, body, hy, hR⟩ := hY5
        have HR := hide hR
        clear hR ho5 hs5
        (try dsimp only)
        (repeat (first | go_values | gi_guarded | gi_step | gi_upon))
        refine HR.out.mono ?_
        rintro e W3 hq
        obtain ⟨b, rfl⟩ := HQ.out _ _ hq
        have HQ3 := hide hq
        clear hq HR
        (try dsimp only)
        (repeat (first | go_values | gi_guarded | gi_step | gi_upon))
        first | exact HQ3.out | (go_ret; exact HQ3.out)
    · have hot' : ¬ (O.size : Int) < (T.size : Int) := by omega
      by_cases h2 : 2 ≤ O.size
      · have h2' : (2 : Int) ≤ (O.size : Int) := by omega
        have he : (false || (decide (O.size < T.size) || decide (2 ≤ O.size))) = true := by rw [decide_eq_true h2, Bool.or_true]; rfl
        have HEE := hide he
        clear he
        have ho : 0 < O.size := by omega
        have ho' : (0 : Int) < (O.size : Int) := by omega
        rcases (by cases last <;> simp : last = false ∨ last = true) with hL | hL
        · have hk : tlK last t = true := by rw [HTK.out, hL]; simp [ho]
          have HKK := hide hk
          clear hk
          have ho5 : OutK N M W ((((((w4.setCell ⟨s, 1, none⟩ (.int .u8 103)).setCell ⟨N + 1, 0, none⟩ (.string ⟨#[]⟩)).setCell ⟨N + 1, 0, none⟩ (.string Z)).setCell ⟨s, 0, none⟩ (.string Y)).setCell ⟨N + 2, 0, none⟩ (.string ⟨#[]⟩)).setCell ⟨N + 3, 0, none⟩ (.string ⟨#[]⟩)) := ((((((HK4.out.setN (g := s) HSZ.out.2 1 _).setO (g := N + 1) (by omega) (by have := HNM.out; omega) 0 _).setO (g := N + 1) (by omega) (by have := HNM.out; omega) 0 _).setN (g := s) HSZ.out.2 0 _).setO (g := N + 2) (by omega) (by have := HNM.out; omega) 0 _).setO (g := N + 3) (by omega) (by have := HNM.out; omega) 0 _)
          have hs5 : SyB ((((((w4.setCell ⟨s, 1, none⟩ (.int .u8 103)).setCell ⟨N + 1, 0, none⟩ (.string ⟨#[]⟩)).setCell ⟨N + 1, 0, none⟩ (.string Z)).setCell ⟨s, 0, none⟩ (.string Y)).setCell ⟨N + 2, 0, none⟩ (.string ⟨#[]⟩)).setCell ⟨N + 3, 0, none⟩ (.string ⟨#[]⟩)) N l (tlN last h [c] t) [] [] := by
            have K : SyB (w4.setCell ⟨s, 1, none⟩ (.int .u8 103)) N l h [c] t := SyB4 _ (.inr ⟨_, rfl⟩)
            refine ⟨((((K.y.far (by dsimp only; omega) _).far (by dsimp only; omega) _).far (by dsimp only; omega) _).far (by dsimp only; omega) _).far (by dsimp only; omega) _, ?_, ((((K.v.far (by dsimp only; omega) _).far (by dsimp only; omega) _).far (by dsimp only; omega) _).set_ 0 _).far (by dsimp only; omega) _, ((((K.t.far (by dsimp only; omega) _).far (by dsimp only; omega) _).far (by dsimp only; omega) _).far (by dsimp only; omega) _).set_ 0 _⟩
            have := ((((K.h.set_ 0 (.string ⟨#[]⟩)).set_ 0 (.string Z)).far (p := ⟨s, 0, none⟩) (by dsimp only; omega) (.string Y)).far (p := ⟨N + 2, 0, none⟩) (by dsimp only; omega) (.string ⟨#[]⟩)).far (p := ⟨N + 3, 0, none⟩) (by dsimp only; omega) (.string ⟨#[]⟩)
            rw [← HZZ.out HKK.out]
            exact this
          have hY5 : YieldAt F (n - 1) Tryd.prog l #[.agg #[.string Y, .int .u8 103]] ((((((w4.setCell ⟨s, 1, none⟩ (.int .u8 103)).setCell ⟨N + 1, 0, none⟩ (.string ⟨#[]⟩)).setCell ⟨N + 1, 0, none⟩ (.string Z)).setCell ⟨s, 0, none⟩ (.string Y)).setCell ⟨N + 2, 0, none⟩ (.string ⟨#[]⟩)).setCell ⟨N + 3, 0, none⟩ (.string ⟨#[]⟩)) Q := by
            have k := HYY.out _ ho5 hs5
            have e1 : (if tlK last t = true then Y else X) = Y := by rw [HKK.out]; rfl
            rw [e1, HEE.out] at k
            exact YieldAt.any hroom k
          obtain ⟨fn, tmps, assign, body, hy, hR⟩ := hY5
          have HR := hide hR
          clear hR ho5 hs5
          have cz : (((w4.setCell ⟨s, 1, none⟩ (.int .u8 103)).setCell ⟨N + 1, 0, none⟩ (.string ⟨#[]⟩)).setCell ⟨N + 1, 0, none⟩ (.string Z)).cell? ⟨N + 1, 0, none⟩ = some (.string Z) := by
            have K : SyB (w4.setCell ⟨s, 1, none⟩ (.int .u8 103)) N l h [c] t := SyB4 _ (.inr ⟨_, rfl⟩)
            exact (bx1 ((K.h.set_ 0 (.string ⟨#[]⟩)).set_ 0 (.string Z))).2
          (try dsimp only)
          (repeat (first | go_values | gi_guarded | gi_step | gi_upon))
          (with_reducible refine (hwd (HTX.out _)).mono ?_)
          rintro e w6 ⟨rfl, rfl⟩
          (try dsimp only)
          (repeat (first | go_values | gi_guarded | gi_step | gi_upon))
          refine HR.out.mono ?_
          rintro e W3 hq
          obtain ⟨b, rfl⟩ := HQ.out _ _ hq
          have HQ3 := hide hq
          clear hq HR
          (try dsimp only)
          (repeat (first | go_values | gi_guarded | gi_step | gi_upon))
          first | exact HQ3.out | (go_ret; exact HQ3.out)
        · have hk : tlK last t = false := by rw [HTK.out, hL]; simp
          have HKK := hide hk
          clear hk
          have ho5 : OutK N M W ((((w4.setCell ⟨s, 1, none⟩ (.int .u8 103)).setCell ⟨N + 1, 0, none⟩ (.string ⟨#[]⟩)).setCell ⟨N + 2, 0, none⟩ (.string ⟨#[]⟩)).setCell ⟨N + 3, 0, none⟩ (.string ⟨#[]⟩)) := ((((HK4.out.setN (g := s) HSZ.out.2 1 _).setO (g := N + 1) (by omega) (by have := HNM.out; omega) 0 _).setO (g := N + 2) (by omega) (by have := HNM.out; omega) 0 _).setO (g := N + 3) (by omega) (by have := HNM.out; omega) 0 _)
          have hs5 : SyB ((((w4.setCell ⟨s, 1, none⟩ (.int .u8 103)).setCell ⟨N + 1, 0, none⟩ (.string ⟨#[]⟩)).setCell ⟨N + 2, 0, none⟩ (.string ⟨#[]⟩)).setCell ⟨N + 3, 0, none⟩ (.string ⟨#[]⟩)) N l (tlN last h [c] t) [] [] := by
            unfold tlN
            rw [HKK.out]
            have K : SyB (w4.setCell ⟨s, 1, none⟩ (.int .u8 103)) N l h [c] t := SyB4 _ (.inr ⟨_, rfl⟩)
            exact ⟨((K.y.far (by dsimp only; omega) _).far (by dsimp only; omega) _).far (by dsimp only; omega) _, ((K.h.set_ 0 _).far (by dsimp only; omega) _).far (by dsimp only; omega) _, ((K.v.far (by dsimp only; omega) _).set_ 0 _).far (by dsimp only; omega) _, ((K.t.far (by dsimp only; omega) _).far (by dsimp only; omega) _).set_ 0 _⟩
          have hY5 : YieldAt F (n - 1) Tryd.prog l #[.agg #[.string X, .int .u8 103]] ((((w4.setCell ⟨s, 1, none⟩ (.int .u8 103)).setCell ⟨N + 1, 0, none⟩ (.string ⟨#[]⟩)).setCell ⟨N + 2, 0, none⟩ (.string ⟨#[]⟩)).setCell ⟨N + 3, 0, none⟩ (.string ⟨#[]⟩)) Q := by
            have k := HYY.out _ ho5 hs5
            have e1 : (if tlK last t = true then Y else X) = X := by rw [HKK.out]; rfl
            rw [e1, HEE.out] at k
            exact YieldAt.any hroom k
          obtain ⟨fn, tmps, assign, body, hy, hR⟩ := hY5
          have HR := hide hR
          clear hR ho5 hs5
          (try dsimp only)
          (repeat (first | go_values | gi_guarded | gi_step | gi_upon))
          refine HR.out.mono ?_
          rintro e W3 hq
          obtain ⟨b, rfl⟩ := HQ.out _ _ hq
          have HQ3 := hide hq
          clear hq HR
          (try dsimp only)
          (repeat (first | go_values | gi_guarded | gi_step | gi_upon))
          first | exact HQ3.out | (go_ret; exact HQ3.out)
      · have h2' : ¬ (2 : Int) ≤ (O.size : Int) := by omega
        have he : (false || (decide (O.size < T.size) || decide (2 ≤ O.size))) = false := by rw [decide_eq_false hot, decide_eq_false h2]; rfl
        have HEE := hide he
        clear he
        by_cases ho : 0 < O.size
        · have ho' : (0 : Int) < (O.size : Int) := by omega
          rcases (by cases last <;> simp : last = false ∨ last = true) with hL | hL
          · have hk : tlK last t = true := by rw [HTK.out, hL]; simp [ho]
            have HKK := hide hk
            clear hk
            have ho5 : OutK N M W (((((w4.setCell ⟨N + 1, 0, none⟩ (.string ⟨#[]⟩)).setCell ⟨N + 1, 0, none⟩ (.string Z)).setCell ⟨s, 0, none⟩ (.string Y)).setCell ⟨N + 2, 0, none⟩ (.string ⟨#[]⟩)).setCell ⟨N + 3, 0, none⟩ (.string ⟨#[]⟩)) := ((((((HK4.out).setO (g := N + 1) (by omega) (by have := HNM.out; omega) 0 _).setO (g := N + 1) (by omega) (by have := HNM.out; omega) 0 _).setN (g := s) HSZ.out.2 0 _).setO (g := N + 2) (by omega) (by have := HNM.out; omega) 0 _).setO (g := N + 3) (by omega) (by have := HNM.out; omega) 0 _)
            have hs5 : SyB (((((w4.setCell ⟨N + 1, 0, none⟩ (.string ⟨#[]⟩)).setCell ⟨N + 1, 0, none⟩ (.string Z)).setCell ⟨s, 0, none⟩ (.string Y)).setCell ⟨N + 2, 0, none⟩ (.string ⟨#[]⟩)).setCell ⟨N + 3, 0, none⟩ (.string ⟨#[]⟩)) N l (tlN last h [c] t) [] [] := by
              have K : SyB w4 N l h [c] t := SyB4 _ (.inl rfl)
              refine ⟨((((K.y.far (by dsimp only; omega) _).far (by dsimp only; omega) _).far (by dsimp only; omega) _).far (by dsimp only; omega) _).far (by dsimp only; omega) _, ?_, ((((K.v.far (by dsimp only; omega) _).far (by dsimp only; omega) _).far (by dsimp only; omega) _).set_ 0 _).far (by dsimp only; omega) _, ((((K.t.far (by dsimp only; omega) _).far (by dsimp only; omega) _).far (by dsimp only; omega) _).far (by dsimp only; omega) _).set_ 0 _⟩
              have := ((((K.h.set_ 0 (.string ⟨#[]⟩)).set_ 0 (.string Z)).far (p := ⟨s, 0, none⟩) (by dsimp only; omega) (.string Y)).far (p := ⟨N + 2, 0, none⟩) (by dsimp only; omega) (.string ⟨#[]⟩)).far (p := ⟨N + 3, 0, none⟩) (by dsimp only; omega) (.string ⟨#[]⟩)
              rw [← HZZ.out HKK.out]
              exact this
            have hY5 : YieldAt F (n - 1) Tryd.prog l #[.agg #[.string Y, .int .u8 108]] (((((w4.setCell ⟨N + 1, 0, none⟩ (.string ⟨#[]⟩)).setCell ⟨N + 1, 0, none⟩ (.string Z)).setCell ⟨s, 0, none⟩ (.string Y)).setCell ⟨N + 2, 0, none⟩ (.string ⟨#[]⟩)).setCell ⟨N + 3, 0, none⟩ (.string ⟨#[]⟩)) Q := by
              have k := HYY.out _ ho5 hs5
              have e1 : (if tlK last t = true then Y else X) = Y := by rw [HKK.out]; rfl
              rw [e1, HEE.out] at k
              exact YieldAt.any hroom k
            obtain ⟨fn, tmps, assign, body, hy, hR⟩ := hY5
            have HR := hide hR
            clear hR ho5 hs5
            have cz : ((w4.setCell ⟨N + 1, 0, none⟩ (.string ⟨#[]⟩)).setCell ⟨N + 1, 0, none⟩ (.string Z)).cell? ⟨N + 1, 0, none⟩ = some (.string Z) := by
              have K : SyB w4 N l h [c] t := SyB4 _ (.inl rfl)
              exact (bx1 ((K.h.set_ 0 (.string ⟨#[]⟩)).set_ 0 (.string Z))).2
            (try dsimp only)
            (repeat (first | go_values | gi_guarded | gi_step | gi_upon))
            (with_reducible refine (hwd (HTX.out _)).mono ?_)
            rintro e w6 ⟨rfl, rfl⟩
            (try dsimp only)
            (repeat (first | go_values | gi_guarded | gi_step | gi_upon))
            refine HR.out.mono ?_
            rintro e W3 hq
            obtain ⟨b, rfl⟩ := HQ.out _ _ hq
            have HQ3 := hide hq
            clear hq HR
            (try dsimp only)
            (repeat (first | go_values | gi_guarded | gi_step | gi_upon))
            first | exact HQ3.out | (go_ret; exact HQ3.out)
          · have hk : tlK last t = false := by rw [HTK.out, hL]; simp
            have HKK := hide hk
            clear hk
            have ho5 : OutK N M W (((w4.setCell ⟨N + 1, 0, none⟩ (.string ⟨#[]⟩)).setCell ⟨N + 2, 0, none⟩ (.string ⟨#[]⟩)).setCell ⟨N + 3, 0, none⟩ (.string ⟨#[]⟩)) := ((((HK4.out).setO (g := N + 1) (by omega) (by have := HNM.out; omega) 0 _).setO (g := N + 2) (by omega) (by have := HNM.out; omega) 0 _).setO (g := N + 3) (by omega) (by have := HNM.out; omega) 0 _)
            have hs5 : SyB (((w4.setCell ⟨N + 1, 0, none⟩ (.string ⟨#[]⟩)).setCell ⟨N + 2, 0, none⟩ (.string ⟨#[]⟩)).setCell ⟨N + 3, 0, none⟩ (.string ⟨#[]⟩)) N l (tlN last h [c] t) [] [] := by
              unfold tlN
              rw [HKK.out]
              have K : SyB w4 N l h [c] t := SyB4 _ (.inl rfl)
              exact ⟨((K.y.far (by dsimp only; omega) _).far (by dsimp only; omega) _).far (by dsimp only; omega) _, ((K.h.set_ 0 _).far (by dsimp only; omega) _).far (by dsimp only; omega) _, ((K.v.far (by dsimp only; omega) _).set_ 0 _).far (by dsimp only; omega) _, ((K.t.far (by dsimp only; omega) _).far (by dsimp only; omega) _).set_ 0 _⟩
            have hY5 : YieldAt F (n - 1) Tryd.prog l #[.agg #[.string X, .int .u8 108]] (((w4.setCell ⟨N + 1, 0, none⟩ (.string ⟨#[]⟩)).setCell ⟨N + 2, 0, none⟩ (.string ⟨#[]⟩)).setCell ⟨N + 3, 0, none⟩ (.string ⟨#[]⟩)) Q := by
              have k := HYY.out _ ho5 hs5
              have e1 : (if tlK last t = true then Y else X) = X := by rw [HKK.out]; rfl
              rw [e1, HEE.out] at k
              exact YieldAt.any hroom k
            obtain ⟨fn, tmps, assign, body, hy, hR⟩ := hY5
            have HR := hide hR
            clear hR ho5 hs5
            (try dsimp only)
            (repeat (first | go_values | gi_guarded | gi_step | gi_upon))
            refine HR.out.mono ?_
            rintro e W3 hq
            obtain ⟨b, rfl⟩ := HQ.out _ _ hq
            have HQ3 := hide hq
            clear hq HR
            (try dsimp only)
            (repeat (first | go_values | gi_guarded | gi_step | gi_upon))
            first | exact HQ3.out | (go_ret; exact HQ3.out)
        · have ho' : ¬ (0 : Int) < (O.size : Int) := by omega
          have hk : tlK last t = false := by rw [HTK.out]; simp [ho]
          have HKK := hide hk
          clear hk
          have ho5 : OutK N M W (((w4.setCell ⟨N + 1, 0, none⟩ (.string ⟨#[]⟩)).setCell ⟨N + 2, 0, none⟩ (.string ⟨#[]⟩)).setCell ⟨N + 3, 0, none⟩ (.string ⟨#[]⟩)) := ((((HK4.out).setO (g := N + 1) (by omega) (by have := HNM.out; omega) 0 _).setO (g := N + 2) (by omega) (by have := HNM.out; omega) 0 _).setO (g := N + 3) (by omega) (by have := HNM.out; omega) 0 _)
          have hs5 : SyB (((w4.setCell ⟨N + 1, 0, none⟩ (.string ⟨#[]⟩)).setCell ⟨N + 2, 0, none⟩ (.string ⟨#[]⟩)).setCell ⟨N + 3, 0, none⟩ (.string ⟨#[]⟩)) N l (tlN last h [c] t) [] [] := by
            unfold tlN
            rw [HKK.out]
            have K : SyB w4 N l h [c] t := SyB4 _ (.inl rfl)
            exact ⟨((K.y.far (by dsimp only; omega) _).far (by dsimp only; omega) _).far (by dsimp only; omega) _, ((K.h.set_ 0 _).far (by dsimp only; omega) _).far (by dsimp only; omega) _, ((K.v.far (by dsimp only; omega) _).set_ 0 _).far (by dsimp only; omega) _, ((K.t.far (by dsimp only; omega) _).far (by dsimp only; omega) _).set_ 0 _⟩
          have hY5 : YieldAt F (n - 1) Tryd.prog l #[.agg #[.string X, .int .u8 108]] (((w4.setCell ⟨N + 1, 0, none⟩ (.string ⟨#[]⟩)).setCell ⟨N + 2, 0, none⟩ (.string ⟨#[]⟩)).setCell ⟨N + 3, 0, none⟩ (.string ⟨#[]⟩)) Q := by
            have k := HYY.out _ ho5 hs5
            have e1 : (if tlK last t = true then Y else X) = X := by rw [HKK.out]; rfl
            rw [e1, HEE.out] at k
            exact YieldAt.any hroom k
          obtain ⟨fn, tmps, assign, body, hy, hR⟩ := hY5
          have HR := hide hR
          clear hR ho5 hs5
          (try dsimp only)
          (repeat (first | go_values | gi_guarded | gi_step | gi_upon))
          refine HR.out.mono ?_
          rintro e W3 hq
          obtain ⟨b, rfl⟩ := HQ.out _ _ hq
          have HQ3 := hide hq
          clear hq HR
          (try dsimp only)
          (repeat (first | go_values | gi_guarded | gi_step | gi_upon))
          first | exact HQ3.out | (go_ret; exact HQ3.out)
  · rw [hln] at HYY
    have he : (true || (decide (O.size < T.size) || decide (2 ≤ O.size))) = true := rfl
    clear hln
    have HEE := hide he
    clear he
    by_cases ho : 0 < O.size
    · have ho' : (0 : Int) < (O.size : Int) := by omega
      rcases (by cases last <;> simp : last = false ∨ last = true) with hL | hL
      · have hk : tlK last t = true := by rw [HTK.out, hL]; simp [ho]
        have HKK := hide hk
        clear hk
        have ho5 : OutK N M W ((((((w4.setCell ⟨s, 1, none⟩ (.int .u8 103)).setCell ⟨N + 1, 0, none⟩ (.string ⟨#[]⟩)).setCell ⟨N + 1, 0, none⟩ (.string Z)).setCell ⟨s, 0, none⟩ (.string Y)).setCell ⟨N + 2, 0, none⟩ (.string ⟨#[]⟩)).setCell ⟨N + 3, 0, none⟩ (.string ⟨#[]⟩)) := ((((((HK4.out.setN (g := s) HSZ.out.2 1 _).setO (g := N + 1) (by omega) (by have := HNM.out; omega) 0 _).setO (g := N + 1) (by omega) (by have := HNM.out; omega) 0 _).setN (g := s) HSZ.out.2 0 _).setO (g := N + 2) (by omega) (by have := HNM.out; omega) 0 _).setO (g := N + 3) (by omega) (by have := HNM.out; omega) 0 _)
        have hs5 : SyB ((((((w4.setCell ⟨s, 1, none⟩ (.int .u8 103)).setCell ⟨N + 1, 0, none⟩ (.string ⟨#[]⟩)).setCell ⟨N + 1, 0, none⟩ (.string Z)).setCell ⟨s, 0, none⟩ (.string Y)).setCell ⟨N + 2, 0, none⟩ (.string ⟨#[]⟩)).setCell ⟨N + 3, 0, none⟩ (.string ⟨#[]⟩)) N l (tlN last h [c] t) [] [] := by
          have K : SyB (w4.setCell ⟨s, 1, none⟩ (.int .u8 103)) N l h [c] t := SyB4 _ (.inr ⟨_, rfl⟩)
          refine ⟨((((K.y.far (by dsimp only; omega) _).far (by dsimp only; omega) _).far (by dsimp only; omega) _).far (by dsimp only; omega) _).far (by dsimp only; omega) _, ?_, ((((K.v.far (by dsimp only; omega) _).far (by dsimp only; omega) _).far (by dsimp only; omega) _).set_ 0 _).far (by dsimp only; omega) _, ((((K.t.far (by dsimp only; omega) _).far (by dsimp only; omega) _).far (by dsimp only; omega) _).far (by dsimp only; omega) _).set_ 0 _⟩
          have := ((((K.h.set_ 0 (.string ⟨#[]⟩)).set_ 0 (.string Z)).far (p := ⟨s, 0, none⟩) (by dsimp only; omega) (.string Y)).far (p := ⟨N + 2, 0, none⟩) (by dsimp only; omega) (.string ⟨#[]⟩)).far (p := ⟨N + 3, 0, none⟩) (by dsimp only; omega) (.string ⟨#[]⟩)
          rw [← HZZ.out HKK.out]
          exact this
        have hY5 : YieldAt F (n - 1) Tryd.prog l #[.agg #[.string Y, .int .u8 103]] ((((((w4.setCell ⟨s, 1, none⟩ (.int .u8 103)).setCell ⟨N + 1, 0, none⟩ (.string ⟨#[]⟩)).setCell ⟨N + 1, 0, none⟩ (.string Z)).setCell ⟨s, 0, none⟩ (.string Y)).setCell ⟨N + 2, 0, none⟩ (.string ⟨#[]⟩)).setCell ⟨N + 3, 0, none⟩ (.string ⟨#[]⟩)) Q := by
          have k := HYY.out _ ho5 hs5
          have e1 : (if tlK last t = true then Y else X) = Y := by rw [HKK.out]; rfl
          rw [e1, HEE.out] at k
          exact YieldAt.any hroom k
        obtain ⟨fn, tmps, assign, body, hy, hR⟩ := hY5
        have HR := hide hR
        clear hR ho5 hs5
        have cz : (((w4.setCell ⟨s, 1, none⟩ (.int .u8 103)).setCell ⟨N + 1, 0, none⟩ (.string ⟨#[]⟩)).setCell ⟨N + 1, 0, none⟩ (.string Z)).cell? ⟨N + 1, 0, none⟩ = some (.string Z) := by
          have K : SyB (w4.setCell ⟨s, 1, none⟩ (.int .u8 103)) N l h [c] t := SyB4 _ (.inr ⟨_, rfl⟩)
          exact (bx1 ((K.h.set_ 0 (.string ⟨#[]⟩)).set_ 0 (.string Z))).2
        (try dsimp only)
        (repeat (first | go_values | gi_guarded | gi_step | gi_upon))
        (with_reducible refine (hwd (HTX.out _)).mono ?_)
        rintro e w6 ⟨rfl, rfl⟩
        (try dsimp only)
        (repeat (first | go_values | gi_guarded | gi_step | gi_upon))
        refine HR.out.mono ?_
        rintro e W3 hq
        obtain ⟨b, rfl⟩ := HQ.out _ _ hq
        have HQ3 := hide hq
        clear hq HR
        (try dsimp only)
        (repeat (first | go_values | gi_guarded | gi_step | gi_upon))
        first | exact HQ3.out | (go_ret; exact HQ3.out)
      · have hk : tlK last t = false := by rw [HTK.out, hL]; simp
        have HKK := hide hk
        clear hk
        have ho5 : OutK N M W ((((w4.setCell ⟨s, 1, none⟩ (.int .u8 103)).setCell ⟨N + 1, 0, none⟩ (.string ⟨#[]⟩)).setCell ⟨N + 2, 0, none⟩ (.string ⟨#[]⟩)).setCell ⟨N + 3, 0, none⟩ (.string ⟨#[]⟩)) := ((((HK4.out.setN (g := s) HSZ.out.2 1 _).setO (g := N + 1) (by omega) (by have := HNM.out; omega) 0 _).setO (g := N + 2) (by omega) (by have := HNM.out; omega) 0 _).setO (g := N + 3) (by omega) (by have := HNM.out; omega) 0 _)
        have hs5 : SyB ((((w4.setCell ⟨s, 1, none⟩ (.int .u8 103)).setCell ⟨N + 1, 0, none⟩ (.string ⟨#[]⟩)).setCell ⟨N + 2, 0, none⟩ (.string ⟨#[]⟩)).setCell ⟨N + 3, 0, none⟩ (.string ⟨#[]⟩)) N l (tlN last h [c] t) [] [] := by
          unfold tlN
          rw [HKK.out]
          have K : SyB (w4.setCell ⟨s, 1, none⟩ (.int .u8 103)) N l h [c] t := SyB4 _ (.inr ⟨_, rfl⟩)
          exact ⟨((K.y.far (by dsimp only; omega) _).far (by dsimp only; omega) _).far (by dsimp only; omega) _, ((K.h.set_ 0 _).far (by dsimp only; omega) _).far (by dsimp only; omega) _, ((K.v.far (by dsimp only; omega) _).set_ 0 _).far (by dsimp only; omega) _, ((K.t.far (by dsimp only; omega) _).far (by dsimp only; omega) _).set_ 0 _⟩
        have hY5 : YieldAt F (n - 1) Tryd.prog l #[.agg #[.string X, .int .u8 103]] ((((w4.setCell ⟨s, 1, none⟩ (.int .u8 103)).setCell ⟨N + 1, 0, none⟩ (.string ⟨#[]⟩)).setCell ⟨N + 2, 0, none⟩ (.string ⟨#[]⟩)).setCell ⟨N + 3, 0, none⟩ (.string ⟨#[]⟩)) Q := by
          have k := HYY.out _ ho5 hs5
          have e1 : (if tlK last t = true then Y else X) = X := by rw [HKK.out]; rfl
          rw [e1, HEE.out] at k
          exact YieldAt.any hroom k
        obtain ⟨fn, tmps, assign, body, hy, hR⟩ := hY5
        have HR := hide hR
        clear hR ho5 hs5
        (try dsimp only)
        (repeat (first | go_values | gi_guarded | gi_step | gi_upon))
        refine HR.out.mono ?_
        rintro e W3 hq
        obtain ⟨b, rfl⟩ := HQ.out _ _ hq
        have HQ3 := hide hq
        clear hq HR
        (try dsimp only)
        (repeat (first | go_values | gi_guarded | gi_step | gi_upon))
        first | exact HQ3.out | (go_ret; exact HQ3.out)
    · have ho' : ¬ (0 : Int) < (O.size : Int) := by omega
      have hk : tlK last t = false := by rw [HTK.out]; simp [ho]
      have HKK := hide hk
      clear hk
      have ho5 : OutK N M W ((((w4.setCell ⟨s, 1, none⟩ (.int .u8 103)).setCell ⟨N + 1, 0, none⟩ (.string ⟨#[]⟩)).setCell ⟨N + 2, 0, none⟩ (.string ⟨#[]⟩)).setCell ⟨N + 3, 0, none⟩ (.string ⟨#[]⟩)) := ((((HK4.out.setN (g := s) HSZ.out.2 1 _).setO (g := N + 1) (by omega) (by have := HNM.out; omega) 0 _).setO (g := N + 2) (by omega) (by have := HNM.out; omega) 0 _).setO (g := N + 3) (by omega) (by have := HNM.out; omega) 0 _)
      have hs5 : SyB ((((w4.setCell ⟨s, 1, none⟩ (.int .u8 103)).setCell ⟨N + 1, 0, none⟩ (.string ⟨#[]⟩)).setCell ⟨N + 2, 0, none⟩ (.string ⟨#[]⟩)).setCell ⟨N + 3, 0, none⟩ (.string ⟨#[]⟩)) N l (tlN last h [c] t) [] [] := by
        unfold tlN
        rw [HKK.out]
        have K : SyB (w4.setCell ⟨s, 1, none⟩ (.int .u8 103)) N l h [c] t := SyB4 _ (.inr ⟨_, rfl⟩)
        exact ⟨((K.y.far (by dsimp only; omega) _).far (by dsimp only; omega) _).far (by dsimp only; omega) _, ((K.h.set_ 0 _).far (by dsimp only; omega) _).far (by dsimp only; omega) _, ((K.v.far (by dsimp only; omega) _).set_ 0 _).far (by dsimp only; omega) _, ((K.t.far (by dsimp only; omega) _).far (by dsimp only; omega) _).set_ 0 _⟩
      have hY5 : YieldAt F (n - 1) Tryd.prog l #[.agg #[.string X, .int .u8 103]] ((((w4.setCell ⟨s, 1, none⟩ (.int .u8 103)).setCell ⟨N + 1, 0, none⟩ (.string ⟨#[]⟩)).setCell ⟨N + 2, 0, none⟩ (.string ⟨#[]⟩)).setCell ⟨N + 3, 0, none⟩ (.string ⟨#[]⟩)) Q := by
        have k := HYY.out _ ho5 hs5
        have e1 : (if tlK last t = true then Y else X) = X := by rw [HKK.out]; rfl
        rw [e1, HEE.out] at k
        exact YieldAt.any hroom k
      obtain ⟨fn, tmps, assign, body, hy, hR⟩ := hY5
      have HR := hide hR
      clear hR ho5 hs5
      (try dsimp only)
      (repeat (first | go_values | gi_guarded | gi_step | gi_upon))
      refine HR.out.mono ?_
      rintro e W3 hq
      obtain ⟨b, rfl⟩ := HQ.out _ _ hq
      have HQ3 := hide hq
      clear hq HR
      (try dsimp only)
      (repeat (first | go_values | gi_guarded | gi_step | gi_upon))
      first | exact HQ3.out | (go_ret; exact HQ3.out)
end Go.Proofs.YtlkkkgpcjdemdaaDoor
