/- Song: one of some lists of letters. -/
import Derived.Test.YtlkkkgpcjdemdaaDoorSongA
import Derived.Lib.OthersKept
import Derived.Laws.IdiomStrings
import Derived.Laws.RangeAny
import Derived.RangeFuncNested
import Derived.RangeFuncBound
import Derived.RangeFuncCalls
import Derived.RangeFuncLeaves
import Derived.Shelf.RegionOpen
import Derived.OwnWalkIn
import Derived.TacticsInMore
import Derived.LoopNIn
import Derived.LoopIn
import Derived.Lib.SlBytesConst
import Derived.Maps.OwnSet
import Derived.DeepKeys4
set_option linter.unusedSimpArgs false
set_option linter.unusedVariables false
set_option linter.unnecessarySimpa false
namespace Go.Proofs.YtlkkkgpcjdemdaaDoor
open Go Go.RowKit Go.Shelf
set_option maxHeartbeats 2000000
set_option maxRecDepth 100000
theorem containsRune_any (s : ByteArray) (c : Nat) (w : World) (hc : c < 256) (hs : ∀ b ∈ s.data.toList, b.toNat < 128) (hsz : s.size ≤ 100) :
    Calls Tryd.prog 97 #[.string s, .int .i32 (c : Int)] w fun e w' => e = .returned (.bool (memC s.data.toList c)) ∧ Below w.heap.size w w' := by
  rcases (by omega : c < 128 ∨ 128 ≤ c) with h | h
  · refine (Any.strings_ContainsRune_ascii lays151 s (c : Int) w (by omega) (by omega)).mono ?_
    rintro e w' ⟨rfl, rfl⟩
    refine ⟨ret_bool ?_, Below.refl _ _⟩
    rw [Int.toNat_natCast, memC_index _ hc]
  · have HC := hide (indexRune_hi s c w h hc hs hsz)
    rw [memC_hi _ hs h]
    clear hs h hsz hc
    go_enter Tryd.func97, Tryd.ntmps97
    go_wp2_with fail
    refine HC.out.mono ?_
    rintro e w2 ⟨rfl, hb⟩
    go_wp2_with fail
    go_ret
    exact ⟨rfl, hb⟩
theorem indexFunc_str (g : FuncId) (lb : Array Value) (p : Nat → Bool) (A : Option Addr) (n c : Nat) (u : Nat → Value) (w : World) (hn : n ≤ maxLen) (hR : ER w w.heap.size 1 A n fun k _ => u k)
    (eg : ∀ args w, (callFunc g args).run Tryd.prog w = .ok (.enter g args) w)
    (hp : ∀ W k, k < n → Below w.heap.size w W → Calls Tryd.prog g (#[u k] ++ lb) W fun e W' => e = .returned (.bool (p k)) ∧ Below W.heap.size W W') :
    Calls Tryd.prog 118 #[.slice A n c, .func (.func g) #[] lb] w fun e w' => e = .returned (.int .i64 (idx p n)) ∧ Below w.heap.size w w' := by
  unfold maxLen at hn
  have HP := hide hp
  clear hp
  go_enter Tryd.func118, Tryd.ntmps118
  go_wp2
  go_loopw [8] (fun i wr => ∃ k : Nat, k ≤ n ∧ i = .int .i64 k ∧ idx p k = -1 ∧ Below w.heap.size w wr) (fun i _ => n - (intOf i).toNat)
  case atStart => exact ⟨0, Nat.zero_le _, rfl, rfl, Below.refl _ _⟩
  case round =>
    obtain ⟨k, hk, rfl, hx, hB⟩ := hrel
    have HX := hide hx
    clear hx
    by_cases hlt : k < n
    · obtain ⟨b, off, rfl, hb, hc⟩ := VR1.at_ (hR.below hB (Nat.le_refl _)) hlt
      cases hpk : p k with
      | true =>
        have hpk' := hide hpk
        clear hpk
        have H := HP.out wr k hlt hB
        rw [hpk'.out] at H
        have H' := hide H
        clear H
        go_wp2_with ((with_reducible refine H'.out.mono ?_); rintro e w' ⟨rfl, hb1⟩)
        go_ret
        refine ⟨ret_int ?_, hB.trans (hb1.mono hB.size)⟩
        rw [idx_stable p (k+1) n (by simp [idx, HX.out, hpk'.out]) (by omega)]
        simp [idx, HX.out, hpk'.out]
      | false =>
        have hpk' := hide hpk
        clear hpk
        have H := HP.out wr k hlt hB
        rw [hpk'.out] at H
        have H' := hide H
        clear H
        go_wp2_with ((with_reducible refine H'.out.mono ?_); rintro e w' ⟨rfl, hb1⟩)
        go_roundw
        case rel => exact ⟨k + 1, by omega, by go_num, by simp [idx, HX.out, hpk'.out], hB.trans (hb1.mono hB.size)⟩
        case measure => simp [intOf]; omega
    · obtain rfl : k = n := by omega
      go_wp2
      go_ret
      exact ⟨ret_int HX.out.symm, hB⟩
theorem containsFunc_str (g : FuncId) (lb : Array Value) (p : Nat → Bool) (A : Option Addr) (n c : Nat) (u : Nat → Value) (w : World) (hn : n ≤ maxLen) (hR : ER w w.heap.size 1 A n fun k _ => u k)
    (eg : ∀ args w, (callFunc g args).run Tryd.prog w = .ok (.enter g args) w)
    (hp : ∀ W k, k < n → Below w.heap.size w W → Calls Tryd.prog g (#[u k] ++ lb) W fun e W' => e = .returned (.bool (p k)) ∧ Below W.heap.size W W') :
    Calls Tryd.prog 95 #[.slice A n c, .func (.func g) #[] lb] w fun e w' => e = .returned (.bool (anyTo p n)) ∧ Below w.heap.size w w' := by
  have H := hide (indexFunc_str g lb p A n c u w hn hR eg hp)
  clear hp hR hn eg
  go_enter Tryd.func95, Tryd.ntmps95
  go_wp2_with ((with_reducible refine H.out.mono ?_); rintro e w' ⟨rfl, hb1⟩)
  go_ret
  exact ⟨ret_bool (idx_any p n), hb1⟩
/-- a list of short ASCII texts -/
def AscL (l : List Wd) : Prop := ∀ x ∈ l, (∀ b ∈ x.data.toList, b.toNat < 128) ∧ x.size ≤ 100
theorem AscL.at_ {l : List Wd} (h : AscL l) (k : Nat) : (∀ b ∈ (l.getD k noW).data.toList, b.toNat < 128) ∧ (l.getD k noW).size ≤ 100 := by
  rw [List.getD_eq_getElem?_getD]
  cases hc : l[k]? with
  | none => exact ⟨by intro b hb; simp [noW] at hb, by show (noW : Wd).size ≤ 100; decide⟩
  | some x => exact h x (List.mem_of_getElem? hc)
/-- a letter stands in one of the texts -/
def isL (l : List Wd) (c : Nat) : Bool := l.any fun s => memC s.data.toList c
theorem isL_to (l : List Wd) (c : Nat) : anyTo (fun k => memC (l.getD k noW).data.toList c) l.length = isL l c := by
  rw [Bool.eq_iff_iff, anyTo_iff]
  unfold isL
  rw [List.any_eq_true]
  constructor
  · rintro ⟨k, hk, h⟩
    rw [List.getD_eq_getElem?_getD, List.getElem?_eq_getElem hk] at h
    exact ⟨_, List.getElem_mem hk, h⟩
  · rintro ⟨x, hx, h⟩
    obtain ⟨k, hk, rfl⟩ := List.getElem_of_mem hx
    exact ⟨k, hk, by rw [List.getD_eq_getElem?_getD, List.getElem?_eq_getElem hk]; exact h⟩
theorem is1_any (s : ByteArray) (c g : Nat) (w : World) (hc : c < 256) (hs : ∀ b ∈ s.data.toList, b.toNat < 128) (hsz : s.size ≤ 100) (hg : w.cell? ⟨g, 0, none⟩ = some (.int .i32 (c : Int))) :
    Calls Tryd.prog 96 #[.string s, .pointer (some ⟨g, 0, none⟩)] w fun e w' => e = .returned (.bool (memC s.data.toList c)) ∧ Below w.heap.size w w' := by
  have HC := hide (containsRune_any s c w hc hs hsz)
  clear hc hs hsz
  go_enter Tryd.func96, Tryd.ntmps96
  go_wp2_with fail
  refine HC.out.mono ?_
  rintro e w2 ⟨rfl, hb⟩
  go_wp2_with fail
  go_ret
  exact ⟨rfl, hb⟩
theorem is_any (l : List Wd) (c k : Nat) (A : Option Addr) (w : World) (hc : c < 256) (hl : AscL l) (hn : l.length ≤ 100) (hA : SR w w.heap.size A l) :
    Calls Tryd.prog 58 #[.int .i32 (c : Int), .slice A l.length k] w fun e w' => e = .returned (.bool (isL l c)) ∧ Below w.heap.size w w' := by
  have HC : Hid (∀ W, Below w.heap.size w W → W.cell? ⟨w.heap.size, 0, none⟩ = some (.int .i32 (c : Int)) → Calls Tryd.prog 95 #[.slice A l.length k, .func (.func 96) #[] #[.pointer (some ⟨w.heap.size, 0, none⟩)]] W fun e w' => e = .returned (.bool (isL l c)) ∧ Below W.heap.size W w') := hide fun W hW hcell => by
    have h := containsFunc_str 96 #[.pointer (some ⟨w.heap.size, 0, none⟩)] (fun k => memC (l.getD k noW).data.toList c) A l.length k (fun k => .string (l.getD k noW)) W (by unfold maxLen; omega) ((hA.below hW (Nat.le_refl _)).more hW.size) (enters_of Tryd.func96 (by kernel_rfl) rfl)
      (fun W' j hj hb => is1_any _ c w.heap.size W' hc (hl.at_ j).1 (hl.at_ j).2 ((hb.cell (cell_lt hcell)).trans hcell))
    rw [isL_to] at h
    exact h
  clear hc hl hn hA
  generalize isL l c = b at HC ⊢
  go_enter Tryd.func58, Tryd.ntmps58
  go_wp2_with fail
  refine (HC.out _ ((Below.refl _ _).alloc (Nat.le_refl _) _) (by simp)).mono ?_
  rintro e w2 ⟨rfl, hb⟩
  go_wp2_with fail
  go_ret
  exact ⟨rfl, ((Below.refl w.heap.size w).alloc (Nat.le_refl _) _).trans (hb.mono (by simp))⟩
end Go.Proofs.YtlkkkgpcjdemdaaDoor
/- Song, plain: letters, what makes a line valid. -/
namespace Go.Proofs.YtlkkkgpcjdemdaaDoor
open Go Go.RowKit Go.Shelf
set_option maxHeartbeats 2000000
set_option maxRecDepth 100000
def sA : Wd := ⟨#[97, 105, 117]⟩
def lA : Wd := ⟨#[65, 73, 85, 101, 111]⟩
def cA : Wd := ⟨#[107, 103, 99, 106, 116, 100, 110, 112, 98, 109, 121, 114, 108, 118, 115, 104]⟩
def mA : Wd := ⟨#[77, 72]⟩
def pA : Wd := ⟨#[32]⟩
theorem AscL.of {l : List Wd} (h : (l.all fun x => x.data.toList.all (fun b => decide (b.toNat < 128)) && decide (x.size ≤ 100)) = true) : AscL l := by
  intro x hx
  have := List.all_eq_true.1 h x hx
  rw [Bool.and_eq_true, decide_eq_true_iff] at this
  exact ⟨fun b hb => by simpa using List.all_eq_true.1 this.1 b hb, this.2⟩
def vwB (c : Nat) : Bool := isL [sA, lA] c
def lnB (c : Nat) : Bool := isL [lA] c
def clB (c : Nat) : Bool := isL [mA] c
def okB (c : Nat) : Bool := isL [sA, lA, cA, mA, pA] c
theorem isL_hi {l : List Wd} (h : AscL l) {c : Nat} (hc : 128 ≤ c) : isL l c = false := by
  unfold isL
  rw [List.any_eq_false]
  intro x hx
  rw [memC_hi _ (h x hx).1 hc]
  exact Bool.false_ne_true
theorem ok_lt {c : Nat} (h : okB c = true) : c < 128 := by
  apply Classical.byContradiction
  intro hn
  unfold okB at h
  rw [isL_hi (AscL.of (by decide)) (by omega)] at h
  cases h
/-- the letter ahead of place i; a space ahead of the first -/
def prv (l : List UInt8) (i : Nat) : Nat := if i = 0 then 32 else (l.getD (i - 1) 0).toNat
def clash (l : List UInt8) (i : Nat) : Bool := clB (l.getD i 0).toNat && !vwB (prv l i)
def bad4 (l : List UInt8) : Bool := l.isEmpty || (Lib.trimB l 32 != l || Lib.contains l [32, 32])
def badC (l : List UInt8) : Bool := l.any fun b => !okB b.toNat
def novw (l : List UInt8) : Bool := l.all fun b => !vwB b.toNat
/-- the error of a line -/
def chkE (l : List UInt8) : Int := if 300 < l.length then 5 else if bad4 l then 4 else if badC l then 4 else if anyTo (clash l) l.length then 100 else if novw l then 100 else 0
theorem getD_mem {l : List UInt8} {k : Nat} (h : k < l.length) : l.getD k 0 ∈ l := by
  rw [List.getD_eq_getElem?_getD, List.getElem?_eq_getElem h]; exact List.getElem_mem h
def cntV (l : List UInt8) : Nat → Nat
  | 0 => 0
  | k + 1 => cntV l k + if vwB (l.getD k 0).toNat then 1 else 0
theorem cntV_le (l : List UInt8) : ∀ k, cntV l k ≤ k
  | 0 => Nat.le_refl _
  | k + 1 => by have := cntV_le l k; unfold cntV; split <;> omega
theorem cntV_zero (l : List UInt8) : ∀ k, cntV l k = 0 ↔ ∀ j, j < k → vwB (l.getD j 0).toNat = false
  | 0 => by simp [cntV]
  | k + 1 => by
    have ih := cntV_zero l k
    unfold cntV
    constructor
    · intro h j hj
      rcases (by omega : j < k ∨ j = k) with h1 | rfl
      · exact ih.1 (by omega) j h1
      · rcases hv : vwB (l.getD j 0).toNat with _ | _
        · rfl
        · rw [hv] at h; simp at h
    · intro h
      rw [ih.2 (fun j hj => h j (by omega)), h k (by omega)]
      rfl
theorem novw_cnt (l : List UInt8) : novw l = decide (cntV l l.length = 0) := by
  rw [Bool.eq_iff_iff, decide_eq_true_iff, cntV_zero]
  unfold novw
  rw [List.all_eq_true]
  constructor
  · intro h j hj
    simpa using h _ (getD_mem hj)
  · intro h x hx
    obtain ⟨k, hk, rfl⟩ := List.getElem_of_mem hx
    have := h k hk
    rw [List.getD_eq_getElem?_getD, List.getElem?_eq_getElem hk] at this
    simpa using this
theorem badC_to (l : List UInt8) : badC l = anyTo (fun k => !okB (l.getD k 0).toNat) l.length := by
  rw [Bool.eq_iff_iff, anyTo_iff]
  unfold badC
  rw [List.any_eq_true]
  constructor
  · rintro ⟨x, hx, h⟩
    obtain ⟨k, hk, rfl⟩ := List.getElem_of_mem hx
    exact ⟨k, hk, by rw [List.getD_eq_getElem?_getD, List.getElem?_eq_getElem hk]; exact h⟩
  · rintro ⟨k, hk, h⟩
    exact ⟨_, getD_mem hk, h⟩
theorem anyTo_false {p : Nat → Bool} {n k : Nat} (h : anyTo p n = false) (hk : k < n) : p k = false := by
  rcases hp : p k with _ | _
  · rfl
  · rw [(anyTo_iff p n).2 ⟨k, hk, hp⟩] at h; cases h
theorem anyTo_true {p : Nat → Bool} {n k : Nat} (hk : k < n) (h : p k = true) : anyTo p n = true := (anyTo_iff p n).2 ⟨k, hk, h⟩
theorem anyTo_le {p : Nat → Bool} {n k : Nat} (hk : k ≤ n) (h : anyTo p n = false) : anyTo p k = false := by
  rcases hp : anyTo p k with _ | _
  · rfl
  · obtain ⟨j, hj, hpj⟩ := (anyTo_iff p k).1 hp
    rw [anyTo_true (by omega) hpj] at h; cases h
/-- a byte of a string, as the walk reads it -/
theorem byte_at {s : ByteArray} {l : List UInt8} (h : s.data.toList = l) {k : Nat} (hk : k < s.size) : s[k]'hk = l.getD k 0 := by
  subst h
  have hk' : k < s.data.toList.length := by simpa using hk
  rw [List.getD_eq_getElem?_getD, List.getElem?_eq_getElem hk']
  show s.data[k] = _
  simp
theorem size_len {s : ByteArray} {l : List UInt8} (h : s.data.toList = l) : l.length = s.size := by subst h; simp
theorem is_new (l : List Wd) (hl : AscL l) (hn : l.length ≤ 100) (c : Nat) (W : World) (hc : c < 256) :
    Calls Tryd.prog 58 #[.int .i32 (c : Int), .slice (some ⟨W.heap.size, 0, none⟩) l.length l.length] (W.alloc (.cells (l.map Value.string).toArray 9)) fun e w' => e = .returned (.bool (isL l c)) ∧ Below (W.alloc (.cells (l.map Value.string).toArray 9)).heap.size (W.alloc (.cells (l.map Value.string).toArray 9)) w' :=
  is_any l c l.length _ _ hc hl hn (fun _ => ⟨W.heap.size, 0, rfl, by simp, fun k i hk hi => by
    obtain rfl : i = 0 := by omega
    have h := cell_new W (l.map Value.string).toArray 9 k
    simp only [Nat.zero_add, Nat.mul_one, Nat.add_zero]
    rw [h, List.getElem?_toArray, List.getElem?_map, List.getElem?_eq_getElem hk, List.getD_eq_getElem?_getD, List.getElem?_eq_getElem hk]
    rfl⟩)
theorem is_cl (c : Nat) (W : World) (hc : c < 256) :
    Calls Tryd.prog 58 #[.int .i32 (c : Int), .slice (some ⟨W.heap.size, 0, none⟩) 1 1] (W.alloc (.cells #[.string ⟨#[77, 72]⟩] 9)) fun e w' => e = .returned (.bool (clB c)) ∧ Below (W.alloc (.cells #[.string ⟨#[77, 72]⟩] 9)).heap.size (W.alloc (.cells #[.string ⟨#[77, 72]⟩] 9)) w' :=
  is_new [mA] (AscL.of (by decide)) (by decide) c W hc
theorem is_ln (c : Nat) (W : World) (hc : c < 256) :
    Calls Tryd.prog 58 #[.int .i32 (c : Int), .slice (some ⟨W.heap.size, 0, none⟩) 1 1] (W.alloc (.cells #[.string ⟨#[65, 73, 85, 101, 111]⟩] 9)) fun e w' => e = .returned (.bool (lnB c)) ∧ Below (W.alloc (.cells #[.string ⟨#[65, 73, 85, 101, 111]⟩] 9)).heap.size (W.alloc (.cells #[.string ⟨#[65, 73, 85, 101, 111]⟩] 9)) w' :=
  is_new [lA] (AscL.of (by decide)) (by decide) c W hc
theorem is_vw (c : Nat) (W : World) (hc : c < 256) :
    Calls Tryd.prog 58 #[.int .i32 (c : Int), .slice (some ⟨W.heap.size, 0, none⟩) 2 2] (W.alloc (.cells #[.string ⟨#[97, 105, 117]⟩, .string ⟨#[65, 73, 85, 101, 111]⟩] 9)) fun e w' => e = .returned (.bool (vwB c)) ∧ Below (W.alloc (.cells #[.string ⟨#[97, 105, 117]⟩, .string ⟨#[65, 73, 85, 101, 111]⟩] 9)).heap.size (W.alloc (.cells #[.string ⟨#[97, 105, 117]⟩, .string ⟨#[65, 73, 85, 101, 111]⟩] 9)) w' :=
  is_new [sA, lA] (AscL.of (by decide)) (by decide) c W hc
theorem is_ok (c : Nat) (W : World) (hc : c < 256) :
    Calls Tryd.prog 58 #[.int .i32 (c : Int), .slice (some ⟨W.heap.size, 0, none⟩) 5 5] (W.alloc (.cells #[.string ⟨#[97, 105, 117]⟩, .string ⟨#[65, 73, 85, 101, 111]⟩, .string ⟨#[107, 103, 99, 106, 116, 100, 110, 112, 98, 109, 121, 114, 108, 118, 115, 104]⟩, .string ⟨#[77, 72]⟩, .string ⟨#[32]⟩] 9)) fun e w' => e = .returned (.bool (okB c)) ∧ Below (W.alloc (.cells #[.string ⟨#[97, 105, 117]⟩, .string ⟨#[65, 73, 85, 101, 111]⟩, .string ⟨#[107, 103, 99, 106, 116, 100, 110, 112, 98, 109, 121, 114, 108, 118, 115, 104]⟩, .string ⟨#[77, 72]⟩, .string ⟨#[32]⟩] 9)).heap.size (W.alloc (.cells #[.string ⟨#[97, 105, 117]⟩, .string ⟨#[65, 73, 85, 101, 111]⟩, .string ⟨#[107, 103, 99, 106, 116, 100, 110, 112, 98, 109, 121, 114, 108, 118, 115, 104]⟩, .string ⟨#[77, 72]⟩, .string ⟨#[32]⟩] 9)) w' :=
  is_new [sA, lA, cA, mA, pA] (AscL.of (by decide)) (by decide) c W hc
end Go.Proofs.YtlkkkgpcjdemdaaDoor
/- Song: Check, walked. -/
namespace Go.Proofs.YtlkkkgpcjdemdaaDoor
open Go Go.RowKit Go.Shelf
set_option maxHeartbeats 4000000
set_option maxRecDepth 100000
/-- bytealg.MaxLen holds some int -/
def ML (w : World) : Prop := ∃ m : Int, w.cell? ⟨lays144_ren.g 1, 0, none⟩ = some (.int .i64 m)
theorem ML.ext {w w' : World} (h : ML w) (hb : Below w.heap.size w w') : ML w' := by
  obtain ⟨m, hm⟩ := h
  exact ⟨m, (hb.cell (cell_lt hm)).trans hm⟩
theorem trim_sp (s : ByteArray) (l : List UInt8) (hl : s.data.toList = l) (hs : s.size ≤ maxLen) (w : World) :
    Calls Tryd.prog 56 #[.string s, .string ⟨#[32]⟩] w fun e w' => e = .returned (.string ⟨(Lib.trimB l 32).toArray⟩) ∧ Below w.heap.size w w' := by
  subst hl
  unfold maxLen at hs
  refine (Any.strings_Trim_one lays160 s 32 (by decide) w (by omega)).mono ?_
  rintro e w' ⟨rfl, h | h⟩
  · subst h; exact ⟨rfl, Below.refl _ _⟩
  · subst h; exact ⟨rfl, (Below.refl _ _).drew⟩
theorem contains_2 (s : ByteArray) (l : List UInt8) (hl : s.data.toList = l) (hs : s.size ≤ 1000) (w : World) (hM : ML w) :
    Calls Tryd.prog 57 #[.string s, .string ⟨#[32, 32]⟩] w fun e w' => e = .returned (.bool (Lib.contains l [32, 32])) ∧ w = w' := by
  subst hl
  obtain ⟨m, hm⟩ := hM
  refine (Any.strings_Contains lays144 s ⟨#[32, 32]⟩ m w (by omega) hm).mono ?_
  rintro e w' ⟨rfl, rfl⟩
  exact ⟨rfl, rfl⟩
/-- the bytes of a text as they lie in a block -/
def ByR (W : World) (g : Nat) (l : List UInt8) : Prop := ∀ k, k < l.length → W.cell? ⟨g, k, none⟩ = some (.int .u8 ((l.getD k 0).toNat : Int))
theorem ByR.ext {W W' : World} {g : Nat} {l : List UInt8} (h : ByR W g l) (hb : Below W.heap.size W W') : ByR W' g l := fun k hk => (hb.cell (cell_lt (h k hk))).trans (h k hk)
theorem bytes_of (s : ByteArray) (l : List UInt8) (hl : s.data.toList = l) (w : World) :
    ∃ c w', (convert 9 113 (.string s)).run Tryd.prog w = .ok (.slice (some ⟨w.heap.size, 0, none⟩) s.size c) w' ∧ ByR w' w.heap.size l ∧ Below w.heap.size w w' := by
  subst hl
  refine ⟨_, _, run_bytes_of_string (P := Tryd.prog) w 9 113 5 s Tryd.underlying9 Tryd.underlying113 Tryd.underlying5, ?_, ((Below.refl w.heap.size w).drew).alloc (Nat.le_refl _) _⟩
  intro k hk
  have hk' : k < s.data.size := by simpa using hk
  have h := World.cell?_alloc_mark w.drew (bytesRow s (grownCap w s.size 0 5)) 5 ((bytesRow s (grownCap w s.size 0 5)).size, (bytesRow s (grownCap w s.size 0 5)).size + 1) k
  refine Eq.trans h ?_
  rw [bytesRow_at _ _ _ hk', List.getD_eq_getElem?_getD, List.getElem?_eq_getElem hk]
  simp
def itP (k : Nat) (w : World) : Nat := match w.heap[k]? with | some (.stringIter _ p) => p | _ => 0
theorem itP_of {k : Nat} {w : World} {s : ByteArray} {p : Nat} (h : w.heap[k]? = some (.stringIter s p)) : itP k w = p := by unfold itP; rw [h]
theorem iter_lt {k : Nat} {w : World} {s : ByteArray} {p : Nat} (h : w.heap[k]? = some (.stringIter s p)) : k < w.heap.size := (Array.getElem?_eq_some_iff.1 h).1
theorem prv_lt (l : List UInt8) (k : Nat) : prv l k < 256 := by
  unfold prv; split
  · omega
  · exact UInt8.toNat_lt _
theorem prv_succ (l : List UInt8) (k : Nat) : prv l (k + 1) = (l.getD k 0).toNat := by simp [prv]
theorem clash_eq (l : List UInt8) (k : Nat) : clash l k = (clB (l.getD k 0).toNat && !vwB (prv l k)) := rfl
theorem check_any (s : ByteArray) (l : List UInt8) (hl : s.data.toList = l) (w : World) (hs : s.size ≤ maxLen) (hM : ML w) :
    Calls Tryd.prog 31 #[.string s] w fun e w' => e = .returned (.int .i64 (chkE l)) ∧ Below w.heap.size w w' := by
  have hlen := size_len hl
  have HT := hide (fun W => trim_sp s l hl hs W)
  unfold chkE
  rw [hlen]
  unfold maxLen at hs
  by_cases h3 : 300 < s.size
  · rw [if_pos h3]
    have h3' : (300 : Int) < (s.size : Int) := by omega
    clear hl HT hM hlen
    go_enter Tryd.func31, Tryd.ntmps31
    go_wp2_with fail
    go_ret
    exact ⟨rfl, Below.refl _ _⟩
  rw [if_neg h3]
  have h3' : ¬ (300 : Int) < (s.size : Int) := by omega
  have HC := hide (fun W (h : ML W) => contains_2 s l hl (by omega) W h)
  have HBY := hide (fun W => bytes_of s l hl W)
  have HA := hide (fun k (hk : k < s.size) => byte_at hl hk)
  have HL := hide hl
  have HM := hide hM
  have HLEN := hide hlen
  unfold bad4
  rcases l with _ | ⟨c0, l0⟩
  · have h1 : s.toList = [] := by rw [toList_data]; exact hl
    have h2 : s.toList.isEmpty = true := by rw [h1]; rfl
    clear hl hM hlen h3
    go_enter Tryd.func31, Tryd.ntmps31
    go_wp2_with fail
    go_ret
    exact ⟨rfl, Below.refl _ _⟩
  obtain ⟨l, hl'⟩ : ∃ l, c0 :: l0 = l := ⟨_, rfl⟩
  have h1 : ¬ s.toList = [] := by rw [toList_data, hl]; simp
  have h2 : s.toList.isEmpty = false := by rw [toList_data, hl]; rfl
  have h4 : (c0 :: l0).isEmpty = false := rfl
  rw [h4, Bool.false_or, hl']
  rw [hl'] at HT HC HBY HA HL HLEN hl hlen
  clear hl' h4
  obtain ⟨R, hR⟩ : ∃ R : ByteArray, (⟨(Lib.trimB l 32).toArray⟩ : ByteArray) = R := ⟨_, rfl⟩
  rw [hR] at HT
  by_cases hRs : R = s
  rotate_left
  · have e1 : (R.toList == s.toList) = false := str_ne hRs
    have e2 : (Lib.trimB l 32 != l) = true := by
      rw [bne_iff_ne]
      intro e
      apply hRs
      rw [← hR, e, ← hl]
    rw [e2, Bool.true_or, if_pos rfl]
    clear hl hM hlen h3 hR e2 hRs
    go_enter Tryd.func31, Tryd.ntmps31
    go_wp2_with fail
    refine (HT.out _).mono ?_
    rintro e w2 ⟨rfl, hb⟩
    go_wp2_with fail
    go_ret
    exact ⟨rfl, hb⟩
  subst hRs
  have e2 : (Lib.trimB l 32 != l) = false := by
    rw [bne_eq_false_iff_eq]
    have := congrArg (fun x : ByteArray => x.data.toList) hR
    simpa [hl] using this
  rw [e2, Bool.false_or]
  clear hl hM hlen h3 hR e2
  have e1 : (R.toList == R.toList) = true := beq_self_eq_true _
  rcases hcn : Lib.contains l [32, 32] with _ | _
  rotate_left
  · rw [if_pos rfl]
    rw [hcn] at HC
    clear hcn
    go_enter Tryd.func31, Tryd.ntmps31
    go_wp2_with fail
    refine (HT.out _).mono ?_
    rintro e w2 ⟨rfl, hb⟩
    go_wp2_with fail
    refine (HC.out w2 (HM.out.ext hb)).mono ?_
    rintro e w3 ⟨rfl, rfl⟩
    go_wp2_with fail
    go_ret
    exact ⟨rfl, hb⟩
  rw [if_neg Bool.false_ne_true]
  rw [hcn] at HC
  clear hcn
  obtain ⟨E, hE⟩ : ∃ E : Int, (if badC l = true then (4 : Int) else if anyTo (clash l) R.size = true then 100 else if novw l = true then 100 else 0) = E := ⟨_, rfl⟩
  rw [hE]
  have HE := hide hE
  clear hE
  go_enter Tryd.func31, Tryd.ntmps31
  go_wp2_with fail
  refine (HT.out _).mono ?_
  rintro e w2 ⟨rfl, hb⟩
  go_wp2_with fail
  refine (HC.out w2 (HM.out.ext hb)).mono ?_
  rintro e w3 ⟨rfl, rfl⟩
  obtain ⟨cp, w3, hcv, hby, hb3⟩ := HBY.out w2
  have HB := hide (hb.trans (hb3.mono hb.size))
  go_wp2_with fail
  obtain ⟨g, hg⟩ : ∃ g, w2.heap.size = g := ⟨_, rfl⟩
  rw [hg] at hby ⊢
  have HBY1 := hide hby
  clear hg hby hcv hb hb3 HBY HC HT
  have hR3 : R.size ≤ 300 := by omega
  go_loopw [27] (fun i wr => ∃ k : Nat, k ≤ R.size ∧ i = .int .i64 k ∧ Hid (∀ j, j < k → okB (l.getD j 0).toNat = true) ∧ Hid (Below w.heap.size w wr) ∧ Hid (ByR wr g l)) (fun i _ => R.size - (intOf i).toNat)
  case atStart => exact ⟨0, Nat.zero_le _, rfl, hide (fun j hj => by omega), HB, HBY1⟩
  case round =>
    obtain ⟨k, hk, rfl, HK, HBk, HBYk⟩ := hrel
    clear HB HBY1
    by_cases hlt : k < R.size
    · have hcell := HBYk.out k (by rw [HLEN.out]; exact hlt)
      have hc256 : (l.getD k 0).toNat < 256 := UInt8.toNat_lt _
      obtain ⟨c, hc⟩ : ∃ c, (l.getD k 0).toNat = c := ⟨_, rfl⟩
      rw [hc] at hcell hc256
      have HCC := hide hc
      clear hc
      have HIS := hide (fun W => is_ok c W hc256)
      have wi : IntKind.i32.wrap (c : Int) = (c : Int) := IntWalk.i32_in _ (by omega)
      rcases hok : okB c with _ | _
      · rw [hok] at HIS
        have HOK := hide hok
        clear hok
        go_wp2_with fail
        refine (HIS.out _).mono ?_
        rintro e w4 ⟨rfl, hb4⟩
        have HB4 := hide (HBk.out.trans ((((Below.refl wr.heap.size wr).alloc (Nat.le_refl _) _).trans (hb4.mono (by simp))).mono HBk.out.size))
        clear hb4
        go_wp2_with fail
        go_ret
        refine ⟨ret_int ?_, HB4.out⟩
        rw [← HE.out, if_pos (by rw [badC_to]; exact anyTo_true (k := k) (by rw [HLEN.out]; exact hlt) (by rw [HCC.out, HOK.out]; rfl))]
      · rw [hok] at HIS
        have HOK := hide hok
        clear hok
        go_wp2_with fail
        refine (HIS.out _).mono ?_
        rintro e w4 ⟨rfl, hb4⟩
        have hb5 := (((Below.refl wr.heap.size wr).alloc (Nat.le_refl _) _).trans (hb4.mono (by simp)))
        have HB4 := hide (HBk.out.trans (hb5.mono HBk.out.size))
        have HBY4 := hide (HBYk.out.ext hb5)
        clear hb4 hb5
        go_wp2_with fail
        go_roundw
        case rel => exact ⟨k + 1, by omega, by go_num, hide (fun j hj => by
          rcases (by omega : j < k ∨ j = k) with h | rfl
          · exact HK.out j h
          · rw [HCC.out]; exact HOK.out), HB4, HBY4⟩
        case measure => simp [intOf]; omega
    · obtain rfl : k = R.size := by omega
      have hbad : badC l = false := by
        rw [badC_to]
        rcases hh : anyTo (fun k => !okB (l.getD k 0).toNat) l.length with _ | _
        · rfl
        · obtain ⟨j, hj, h⟩ := (anyTo_iff _ _).1 hh
          rw [HLEN.out] at hj
          rw [HK.out j hj] at h
          cases h
      have HE1 : Hid ((if anyTo (clash l) R.size = true then (100 : Int) else if novw l = true then 100 else 0) = E) := hide (by rw [← HE.out, hbad, if_neg Bool.false_ne_true])
      clear hbad hlt HE
      have HASC := hide (fun j (hj : j < R.size) => ok_lt (HK.out j hj))
      clear HK HBYk
      go_wp2_with fail
      have hit := World.iter_heap wr R 0
      have HB1 : Hid (Below w.heap.size w (wr.iter R 0)) := hide (HBk.out.alloc HBk.out.size _)
      obtain ⟨it, hie⟩ : ∃ it, wr.heap.size = it := ⟨_, rfl⟩
      have hlo : w.heap.size ≤ it := by rw [← hie]; exact HBk.out.size
      rw [hie] at hit ⊢
      have HIT := hide hit
      clear hie hit HBk
      generalize wr.iter R 0 = wo at HIT HB1 ⊢
      go_loopw [5, 6] (fun v b wx => ∃ (k n : Nat), k ≤ R.size ∧ n ≤ k ∧ v = .int .i64 (n : Int) ∧ b = .int .i32 (prv l k : Nat) ∧ Hid (n = cntV l k) ∧ Hid (anyTo (clash l) k = false) ∧ Hid (wx.heap[it]? = some (.stringIter R k)) ∧ Hid (Below w.heap.size w wx)) (fun _ _ wx => R.size - itP it wx)
      case atStart => exact ⟨0, 0, Nat.zero_le _, Nat.le_refl _, rfl, rfl, hide rfl, hide rfl, HIT, HB1⟩
      case round =>
        obtain ⟨k, n, hk, hnk, rfl, rfl, HNC, HCK, HITk, HBk⟩ := hrel
        clear HIT HB1
        by_cases hlt : k < R.size
        · have hb := HA.out k hlt
          have hasc := HASC.out k hlt
          have hmea := itP_of HITk.out
          have HMEA := hide hmea
          clear hmea
          have hnx := fun ty => Lib.run_next_ascii_at (P := Tryd.prog) wr it R k ty HITk.out hlt (by rw [hb]; exact hasc)
          have hit1 := Lib.iterAt_heap wr it R k (k + 1) HITk.out
          have hb1 := Lib.below_iterAt HBk.out hlo R (k + 1)
          rw [hb] at hnx
          clear hb
          generalize wr.iterAt it R (k + 1) = wx at hnx hit1 hb1
          have HIT1 := hide hit1
          have HB1 := hide hb1
          have HB0 : Hid (Below wx.heap.size wx wx) := hide (Below.refl _ _)
          clear hit1 hb1 HBk HITk
          have hc256 : (l.getD k 0).toNat < 256 := UInt8.toNat_lt _
          have hp256 := prv_lt l k
          obtain ⟨c, hc⟩ : ∃ c, (l.getD k 0).toNat = c := ⟨_, rfl⟩
          obtain ⟨p, hp⟩ : ∃ p, prv l k = p := ⟨_, rfl⟩
          rw [hc] at hnx hasc hc256
          rw [hp] at hp256 ⊢
          have HCC := hide hc
          have HPP := hide hp
          clear hc hp
          have HCL := hide (fun W => is_cl c W hc256)
          have HVW := hide (fun W => is_vw c W hc256)
          have HVP := hide (fun W => is_vw p W hp256)
          clear hasc hc256 hp256
          rcases hcl : clB c with _ | _
          · rw [hcl] at HCL
            have HCB := hide hcl
            clear hcl
            go_wp2_with fail
            refine (HCL.out _).mono ?_
            rintro e w4 ⟨rfl, hb4⟩
            have HB4 := hide (HB0.out.trans ((((Below.refl wx.heap.size wx).alloc (Nat.le_refl _) _).trans (hb4.mono (by simp))).mono HB0.out.size))
            clear hb4
            rcases hvb : vwB c with _ | _
            · rw [hvb] at HVW
              have HVB := hide hvb
              clear hvb
              go_wp2_with fail
              refine (HVW.out _).mono ?_
              rintro e w6 ⟨rfl, hb6⟩
              have HB6 := hide (HB4.out.trans ((((Below.refl w4.heap.size w4).alloc (Nat.le_refl _) _).trans (hb6.mono (by simp))).mono HB4.out.size))
              clear hb6
              go_wp2_with fail
              go_roundw
              case rel => exact ⟨k + 1, n, by omega, by omega, by first | rfl | go_num, by rw [prv_succ, HCC.out], hide (by unfold cntV; rw [HCC.out, HVB.out, ← HNC.out]; rfl), hide (by unfold anyTo; rw [HCK.out, clash_eq, HCC.out, HPP.out, HCB.out]; rfl), hide ((HB6.out.block it (iter_lt HIT1.out)).trans HIT1.out), hide (HB1.out.trans (HB6.out.mono HB1.out.size))⟩
              case measure => rw [itP_of ((HB6.out.block it (iter_lt HIT1.out)).trans HIT1.out), HMEA.out]; omega
            · rw [hvb] at HVW
              have HVB := hide hvb
              clear hvb
              go_wp2_with fail
              refine (HVW.out _).mono ?_
              rintro e w6 ⟨rfl, hb6⟩
              have HB6 := hide (HB4.out.trans ((((Below.refl w4.heap.size w4).alloc (Nat.le_refl _) _).trans (hb6.mono (by simp))).mono HB4.out.size))
              clear hb6
              go_wp2_with fail
              go_roundw
              case rel => exact ⟨k + 1, n + 1, by omega, by omega, by first | rfl | go_num, by rw [prv_succ, HCC.out], hide (by unfold cntV; rw [HCC.out, HVB.out, ← HNC.out]; rfl), hide (by unfold anyTo; rw [HCK.out, clash_eq, HCC.out, HPP.out, HCB.out]; rfl), hide ((HB6.out.block it (iter_lt HIT1.out)).trans HIT1.out), hide (HB1.out.trans (HB6.out.mono HB1.out.size))⟩
              case measure => rw [itP_of ((HB6.out.block it (iter_lt HIT1.out)).trans HIT1.out), HMEA.out]; omega
          · rw [hcl] at HCL
            have HCB := hide hcl
            clear hcl
            rcases hvp : vwB p with _ | _
            · rw [hvp] at HVP
              have HPB := hide hvp
              clear hvp
              go_wp2_with fail
              refine (HCL.out _).mono ?_
              rintro e w4 ⟨rfl, hb4⟩
              have HB4 := hide (HB0.out.trans ((((Below.refl wx.heap.size wx).alloc (Nat.le_refl _) _).trans (hb4.mono (by simp))).mono HB0.out.size))
              clear hb4
              go_wp2_with fail
              refine (HVP.out _).mono ?_
              rintro e w5 ⟨rfl, hb5⟩
              have HB5 := hide (HB4.out.trans ((((Below.refl w4.heap.size w4).alloc (Nat.le_refl _) _).trans (hb5.mono (by simp))).mono HB4.out.size))
              clear hb5
              go_wp2_with fail
              go_ret
              refine ⟨ret_int ?_, HB1.out.trans (HB5.out.mono HB1.out.size)⟩
              rw [← HE1.out, if_pos (anyTo_true hlt (by rw [clash_eq, HCC.out, HPP.out, HCB.out, HPB.out]; rfl))]
            · rw [hvp] at HVP
              have HPB := hide hvp
              clear hvp
              go_wp2_with fail
              refine (HCL.out _).mono ?_
              rintro e w4 ⟨rfl, hb4⟩
              have HB4 := hide (HB0.out.trans ((((Below.refl wx.heap.size wx).alloc (Nat.le_refl _) _).trans (hb4.mono (by simp))).mono HB0.out.size))
              clear hb4
              go_wp2_with fail
              refine (HVP.out _).mono ?_
              rintro e w5 ⟨rfl, hb5⟩
              have HB5 := hide (HB4.out.trans ((((Below.refl w4.heap.size w4).alloc (Nat.le_refl _) _).trans (hb5.mono (by simp))).mono HB4.out.size))
              clear hb5
              rcases hvb : vwB c with _ | _
              · rw [hvb] at HVW
                have HVB := hide hvb
                clear hvb
                go_wp2_with fail
                refine (HVW.out _).mono ?_
                rintro e w6 ⟨rfl, hb6⟩
                have HB6 := hide (HB5.out.trans ((((Below.refl w5.heap.size w5).alloc (Nat.le_refl _) _).trans (hb6.mono (by simp))).mono HB5.out.size))
                clear hb6
                go_wp2_with fail
                go_roundw
                case rel => exact ⟨k + 1, n, by omega, by omega, by first | rfl | go_num, by rw [prv_succ, HCC.out], hide (by unfold cntV; rw [HCC.out, HVB.out, ← HNC.out]; rfl), hide (by unfold anyTo; rw [HCK.out, clash_eq, HCC.out, HPP.out, HCB.out, HPB.out]; rfl), hide ((HB6.out.block it (iter_lt HIT1.out)).trans HIT1.out), hide (HB1.out.trans (HB6.out.mono HB1.out.size))⟩
                case measure => rw [itP_of ((HB6.out.block it (iter_lt HIT1.out)).trans HIT1.out), HMEA.out]; omega
              · rw [hvb] at HVW
                have HVB := hide hvb
                clear hvb
                go_wp2_with fail
                refine (HVW.out _).mono ?_
                rintro e w6 ⟨rfl, hb6⟩
                have HB6 := hide (HB5.out.trans ((((Below.refl w5.heap.size w5).alloc (Nat.le_refl _) _).trans (hb6.mono (by simp))).mono HB5.out.size))
                clear hb6
                go_wp2_with fail
                go_roundw
                case rel => exact ⟨k + 1, n + 1, by omega, by omega, by first | rfl | go_num, by rw [prv_succ, HCC.out], hide (by unfold cntV; rw [HCC.out, HVB.out, ← HNC.out]; rfl), hide (by unfold anyTo; rw [HCK.out, clash_eq, HCC.out, HPP.out, HCB.out, HPB.out]; rfl), hide ((HB6.out.block it (iter_lt HIT1.out)).trans HIT1.out), hide (HB1.out.trans (HB6.out.mono HB1.out.size))⟩
                case measure => rw [itP_of ((HB6.out.block it (iter_lt HIT1.out)).trans HIT1.out), HMEA.out]; omega
        · obtain rfl : k = R.size := by omega
          have hnx := fun ty => Lib.run_next_end_at (P := Tryd.prog) wr it R R.size ty HITk.out (by omega)
          have hck := HCK.out
          have HE2 : Hid ((if novw l = true then (100 : Int) else 0) = E) := hide (by rw [← HE1.out, HCK.out, if_neg Bool.false_ne_true])
          clear hck HE1
          have hcn := novw_cnt l
          rw [HLEN.out, ← HNC.out] at hcn
          by_cases hn0 : n = 0
          · subst hn0
            have HE3 : Hid ((100 : Int) = E) := hide (by rw [← HE2.out, hcn]; rfl)
            clear hcn HE2
            go_wp2_with fail
            go_ret
            exact ⟨ret_int HE3.out, HBk.out⟩
          · have HE3 : Hid ((0 : Int) = E) := hide (by rw [← HE2.out, hcn, decide_eq_false hn0]; rfl)
            have hn1 : ((n : Int) == 0) = false := by rw [beq_eq_false_iff_ne]; omega
            clear hcn HE2
            go_wp2_with fail
            go_ret
            exact ⟨ret_int HE3.out, HBk.out⟩
end Go.Proofs.YtlkkkgpcjdemdaaDoor
/- Song, plain: syllables. -/
namespace Go.Proofs.YtlkkkgpcjdemdaaDoor
open Go Go.RowKit Go.Shelf
set_option maxHeartbeats 2000000
set_option maxRecDepth 100000
/-- what is left of a tail without its closings -/
def opn (t : List UInt8) : List UInt8 := Lib.trimLeftS t [77, 72]
theorem opn_le (t : List UInt8) : (opn t).length ≤ t.length := by
  unfold opn Lib.trimLeftS
  exact (List.dropWhile_sublist _).length_le
def tlX (h v t : List UInt8) : List UInt8 := (h ++ v) ++ t
/-- is something kept for the next syllable? -/
def tlK (last : Bool) (t : List UInt8) : Bool := decide (0 < (opn t).length) && !last
def tlT (last : Bool) (h v t : List UInt8) : List UInt8 := if tlK last t then (tlX h v t).dropLast else tlX h v t
def tlN (last : Bool) (h v t : List UInt8) : List UInt8 := if tlK last t then (tlX h v t).drop ((tlX h v t).length - 1) else []
def tlG (v t : List UInt8) : Bool := lnB (v.getD 0 0).toNat || (decide ((opn t).length < t.length) || decide (2 ≤ (opn t).length))
/-- a syllable: its letters, and whether it is heavy -/
abbrev Syl := List UInt8 × Bool
def tlS (last : Bool) (h v t : List UInt8) : Syl := (tlT last h v t, tlG v t)
/-- the syllables of letters, from a state on -/
def syl : List UInt8 → List UInt8 → List UInt8 → List UInt8 → List Syl
  | [], h, v, t => [tlS true h v t]
  | c :: r, h, v, t =>
    if vwB c.toNat then
      if v = [] then syl r h [c] t else tlS false h v t :: syl r (tlN false h v t) [c] []
    else if v = [] then syl r (h ++ [c]) v t else syl r h v (t ++ [c])
/-- the letters of a line, without its spaces -/
def ltr (l : List UInt8) : List UInt8 := l.filter fun b => b != 32
def sylL (l : List UInt8) : List Syl := syl (ltr l) [] [] []
def wgB (g : Bool) : Int := if g then 103 else 108
def sylE (x : Syl) : Array Value := #[.agg #[.string ⟨x.1.toArray⟩, .int .u8 (wgB x.2)]]
theorem index_byte (c : UInt8) : ∀ l : List UInt8, Lib.index l [c] = Lib.indexByte l c
  | [] => rfl
  | b :: l => by
    unfold Lib.index Lib.indexByte
    rw [index_byte c l]
    have e : [c].isPrefixOf (b :: l) = (b == c) := by
      simp only [List.isPrefixOf, Bool.and_true]
      rw [Bool.eq_iff_iff, beq_iff_eq, beq_iff_eq]
      exact eq_comm
    rw [e]
theorem replaceK_ltr : ∀ (n : Nat) (l : List UInt8), l.length ≤ n → Lib.replaceK [32] [] (Lib.count l [32]) l = ltr l := by
  intro n
  induction n with
  | zero =>
    intro l hl
    obtain rfl : l = [] := List.eq_nil_of_length_eq_zero (by omega)
    rfl
  | succ n ih =>
    intro l hl
    rcases (by have := Lib.index_ge l [32]; omega : Lib.index l [32] = -1 ∨ 0 ≤ Lib.index l [32]) with h | h
    · rw [Lib.count_miss h]
      unfold Lib.replaceK ltr
      rw [index_byte] at h
      have h1 := Lib.indexByte_none h
      symm
      rw [List.filter_eq_self]
      intro x hx
      obtain ⟨k, hk, rfl⟩ := List.getElem_of_mem hx
      have h2 := h1 k
      rw [List.getElem?_eq_getElem hk] at h2
      simpa using h2
    · obtain ⟨i, hi⟩ := Int.eq_ofNat_of_zero_le h
      have h0 := hi
      rw [index_byte] at h0
      obtain ⟨h1, h2⟩ := Lib.indexByte_some h0
      have hil : i < l.length := (List.getElem?_eq_some_iff.1 h1).1
      rw [Lib.count_hit (by simp) hi, Nat.add_comm, Lib.replaceK_hit _ _ _ _ i hi]
      show l.take i ++ [] ++ Lib.replaceK [32] [] (Lib.count (l.drop (i + 1)) [32]) (l.drop (i + 1)) = ltr l
      rw [ih _ (by simp; omega), List.append_nil]
      have e : l = l.take i ++ 32 :: l.drop (i + 1) := by
        have h3 : l[i] = 32 := (List.getElem?_eq_some_iff.1 h1).2
        rw [← h3, List.getElem_cons_drop, List.take_append_drop]
      conv => rhs; rw [e]
      unfold ltr
      rw [List.filter_append, List.filter_cons_of_neg (by simp)]
      congr 1
      symm
      rw [List.filter_eq_self]
      intro x hx
      obtain ⟨k, hk, rfl⟩ := List.getElem_of_mem hx
      rw [List.length_take] at hk
      have h4 := h2 k (by omega)
      rw [List.getElem?_eq_getElem (by omega)] at h4
      rw [List.getElem_take]
      simpa using h4
theorem replace_one (l : List UInt8) : Lib.replaceAll l [32] [] = ltr l := by
  unfold Lib.replaceAll Lib.replace
  rw [if_neg (by decide)]
  have : Lib.replaceNum l [32] (-1) = Lib.count l [32] := by unfold Lib.replaceNum; rw [if_pos (.inl (by omega))]
  rw [this]
  exact replaceK_ltr _ l (Nat.le_refl _)
/-- letters of a valid line -/
theorem ltr_le (l : List UInt8) : (ltr l).length ≤ l.length := (List.filter_sublist).length_le
theorem bExtra : Go.Proofs.Builder.Extra Tryd.prog lays155_ren := {
  sizeBuilder := by kernel_rfl
  liesBuilder := by kernel_rfl
  t5 := Tryd.underlying5
  a5 := Tryd.isAgg5
  z5 := Tryd.sizeOf5
  v5 := Tryd.zeroValue5
  infoByte := by kernel_rfl
  cellsByte := by kernel_rfl
  sizeByte := by kernel_rfl
  neB5 := by decide }
theorem letters_any (s : ByteArray) (l : List UInt8) (hl : s.data.toList = l) (hs : s.size ≤ 1000) (w : World) (hM : ML w) :
    Calls Tryd.prog 102 #[.string s, .string ⟨#[32]⟩, .string ⟨#[]⟩] w fun e w' => e = .returned (.string ⟨(ltr l).toArray⟩) ∧ Below w.heap.size w w' := by
  subst hl
  obtain ⟨m, hm⟩ := hM
  refine (Any.strings_ReplaceAll lays155 bExtra s ⟨#[32]⟩ ⟨#[]⟩ m w (by omega) hm (by decide) (by show s.size + _ * 0 ≤ _; omega)).mono ?_
  rintro e w' ⟨rfl, hb⟩
  refine ⟨?_, hb⟩
  show Ending.returned (Value.string ⟨(Lib.replaceAll s.data.toList [32] []).toArray⟩) = _
  rw [replace_one]
end Go.Proofs.YtlkkkgpcjdemdaaDoor
/- Song: the closure of syllables that tells one, walked. -/
namespace Go.Proofs.YtlkkkgpcjdemdaaDoor
open Go Go.RowKit Go.Shelf
attribute [local go_sem] Oper.semAt_some
set_option maxHeartbeats 8000000
set_option maxRecDepth 100000
theorem YieldAt.any {F : Fence} {m k : Nat} {P : Program} {l : Nat} {args : Array Value} {W : World} {R : Ending → World → Prop} (hr : ∀ j, F.room j) (h : YieldAt F m P l args W R) : YieldAt F k P l args W R := by
  obtain ⟨fn, tmps, assign, body, h1, h2, h3⟩ := h
  exact ⟨fn, tmps, assign, body, h1, h2, fun c cs _ => h3 c cs (hr _)⟩
theorem OutK.setN {a b : Nat} {W W' : World} (h : OutK a b W W') {g : Nat} (hg : W.heap.size ≤ g) (i : Nat) (v : Value) : OutK a b W (W'.setCell ⟨g, i, none⟩ v) :=
  ⟨h.os, h.tape, h.output, by rw [size_set]; exact h.size, fun k hk hn => (Below.heap_setCell _ _ _ k (fun e => by dsimp only at e; omega)).trans (h.block k hk hn)⟩
theorem OutK.setO {a b : Nat} {W W' : World} (h : OutK a b W W') {g : Nat} (h1 : a ≤ g) (h2 : g < b) (i : Nat) (v : Value) : OutK a b W (W'.setCell ⟨g, i, none⟩ v) := h.trans (OutK.set W' h1 h2 i v)
theorem OutK.low {a b : Nat} {W W' W2 : World} (h : OutK a b W W') (hb : Below W'.heap.size W' W2) : OutK a b W W2 := h.trans (OutK.of_below hb)
/-- the cells of the iterator: the yield, head, vowel, tail -/
structure SyB (W : World) (N : Nat) (l : Nat) (h v t : List UInt8) : Prop where
  y : Blk W N 155 #[.func (.yield l) #[] #[]]
  h : Blk W (N + 1) 9 #[.string ⟨h.toArray⟩]
  v : Blk W (N + 2) 9 #[.string ⟨v.toArray⟩]
  t : Blk W (N + 3) 9 #[.string ⟨t.toArray⟩]
theorem SyB.ext {W W' : World} {N l : Nat} {h v t : List UInt8} (k : SyB W N l h v t) (hb : Below W.heap.size W W') : SyB W' N l h v t := ⟨k.y.ext hb, k.h.ext hb, k.v.ext hb, k.t.ext hb⟩
theorem rune_one (c : UInt8) (hc : c.toNat < 128) (W : World) :
    ∃ cp w', (convert 9 156 (.string ⟨#[c]⟩)).run Tryd.prog W = .ok (.slice (some ⟨W.heap.size, 0, none⟩) 1 cp) w' ∧ w'.cell? ⟨W.heap.size, 0, none⟩ = some (.int .i32 (c.toNat : Int)) ∧ Below W.heap.size W w' := by
  have hr : Conv.runesFrom ⟨#[c]⟩ (⟨#[c]⟩ : ByteArray).size 0 #[] = #[.int .i32 (c.toNat : Int)] := by
    show Conv.runesFrom ⟨#[c]⟩ 1 0 #[] = _
    unfold Conv.runesFrom
    rw [if_pos (show 0 < (⟨#[c]⟩ : ByteArray).size from Nat.zero_lt_one), decode_ascii ⟨#[c]⟩ 0 (show 0 < (⟨#[c]⟩ : ByteArray).size from Nat.zero_lt_one) hc]
    unfold Conv.runesFrom
    rfl
  have h := run_runes_of_string (P := Tryd.prog) W 9 156 21 ⟨#[c]⟩ Tryd.underlying9 Tryd.underlying156 Tryd.underlying21 (by rw [hr]; show 1 ≤ 70368744177664; omega)
  rw [hr] at h
  refine ⟨_, _, h, ?_, ((Below.refl W.heap.size W).drew).alloc (Nat.le_refl _) _⟩
  refine Eq.trans (cell_of_row _ W.heap.size 0 _ 21 (0, 0) (heap_alloc_new W.drew _)) ?_
  rw [Array.getElem?_append_left (show 0 < (#[Value.int .i32 (c.toNat : Int)] : Array Value).size from Nat.zero_lt_one)]
  rfl
theorem trimSfx (x : List UInt8) (hx : x ≠ []) (hs : x.length ≤ 1000) (w : World) :
    Calls Tryd.prog 101 #[.string ⟨x.toArray⟩, .string ⟨(x.drop (x.length - 1)).toArray⟩] w fun e w' => e = .returned (.string ⟨x.dropLast.toArray⟩) ∧ w = w' := by
  refine (Any.strings_TrimSuffix lays102 ⟨x.toArray⟩ ⟨(x.drop (x.length - 1)).toArray⟩ w (by show x.toArray.size ≤ _; simp; omega)).mono ?_
  rintro e w' ⟨rfl, rfl⟩
  refine ⟨?_, rfl⟩
  show Ending.returned (Value.string ⟨(Lib.trimSuffix x (x.drop (x.length - 1))).toArray⟩) = _
  have h1 : 0 < x.length := List.length_pos_iff.2 hx
  unfold Lib.trimSuffix Lib.hasSuffix
  rw [if_pos (by rw [List.isSuffixOf_iff_suffix]; exact List.drop_suffix _ _), List.dropLast_eq_take, List.length_drop]
  congr 5
  omega
theorem trimL (t : List UInt8) (w : World) :
    Calls Tryd.prog 100 #[.string ⟨t.toArray⟩, .string ⟨#[77, 72]⟩] w fun e w' => e = .returned (.string ⟨(opn t).toArray⟩) ∧ Below w.heap.size w w' :=
  Any.strings_TrimLeft_laid lays161 (by kernel_rfl) ⟨t.toArray⟩ ⟨#[77, 72]⟩ w (by decide) (ascii_of_all (by decide))
theorem sizeA (x : List UInt8) : (⟨x.toArray⟩ : ByteArray).size = x.length := by show x.toArray.size = _; simp
theorem extr (x : List UInt8) (k : Nat) : (⟨x.toArray⟩ : ByteArray).extract k (⟨x.toArray⟩ : ByteArray).size = ⟨(x.drop k).toArray⟩ := by
  rw [Lib.extract_from]
theorem tell_in (F : Fence) (n : Nat) (hF : ∀ f, F.fn f) (hro : F.round = none) (hroom : ∀ j, F.room j) (hwd : ∀ {m f args w R}, Calls Tryd.prog f args w R → CallsIn F m Tryd.prog f args w R) (hn : 1 ≤ n)
    (l N M : Nat) (last : Bool) (h t : List UInt8) (c : UInt8) (W : World) (Q : Ending → World → Prop) (hQ : ∀ e w, Q e w → ∃ b, e = .returned (.bool b)) (hS : SyB W N l h [c] t) (hc : c.toNat < 128) (hlen : h.length + t.length ≤ 900)
    (hNM : N + 4 ≤ M) (hM : M ≤ W.heap.size)
    (hY : ∀ W1, OutK N M W W1 → SyB W1 N l (tlN last h [c] t) [] [] → YieldAt F n Tryd.prog l (sylE (tlS last h [c] t)) W1 Q) :
    CallsIn F n Tryd.prog 99 #[.bool last, .pointer (some ⟨N + 3, 0, none⟩), .pointer (some ⟨N + 1, 0, none⟩), .pointer (some ⟨N + 2, 0, none⟩), .pointer (some ⟨N, 0, none⟩)] W Q := by
  have HY := hide hY
  have HS := hide hS
  have HQ := hide hQ
  have HTL := hide (fun w => trimL t w)
  have HNM := hide (And.intro hNM hM)
  clear hY
  have HXL : Hid ((tlX h [c] t).length = h.length + 1 + t.length) := hide (by unfold tlX; simp; omega)
  have ha1 : ∀ w, (Op.stringOp .add (⟨h.toArray⟩ : ByteArray) ⟨#[c]⟩).run Tryd.prog w = .ok (.string ⟨(h ++ [c]).toArray⟩) w := fun w => run_string_add_lists (P := Tryd.prog) w h [c] (by omega) (by simp)
  have ha2 : ∀ w, (Op.stringOp .add (⟨(h ++ [c]).toArray⟩ : ByteArray) ⟨t.toArray⟩).run Tryd.prog w = .ok (.string ⟨(tlX h [c] t).toArray⟩) w := fun w => run_string_add_lists (P := Tryd.prog) w (h ++ [c]) t (by simp; omega) (by omega)
  have HTX := hide (fun w => trimSfx (tlX h [c] t) (by unfold tlX; simp) (by rw [HXL.out]; omega) w)
  have hex := extr (tlX h [c] t) ((tlX h [c] t).length - 1)
  have hxs := sizeA (tlX h [c] t)
  have HIS := hide (fun W => is_ln c.toNat W (by omega))
  have HRU := hide (fun W => rune_one c hc W)
  obtain ⟨O, hO⟩ : ∃ O : ByteArray, (⟨(opn t).toArray⟩ : ByteArray) = O := ⟨_, rfl⟩
  obtain ⟨T, hT⟩ : ∃ O : ByteArray, (⟨t.toArray⟩ : ByteArray) = O := ⟨_, rfl⟩
  obtain ⟨H, hH⟩ : ∃ O : ByteArray, (⟨h.toArray⟩ : ByteArray) = O := ⟨_, rfl⟩
  obtain ⟨V, hV⟩ : ∃ O : ByteArray, (⟨#[c]⟩ : ByteArray) = O := ⟨_, rfl⟩
  obtain ⟨HV, hHV⟩ : ∃ O : ByteArray, (⟨(h ++ [c]).toArray⟩ : ByteArray) = O := ⟨_, rfl⟩
  obtain ⟨X, hX⟩ : ∃ O : ByteArray, (⟨(tlX h [c] t).toArray⟩ : ByteArray) = O := ⟨_, rfl⟩
  obtain ⟨Y, hY⟩ : ∃ O : ByteArray, (⟨(tlX h [c] t).dropLast.toArray⟩ : ByteArray) = O := ⟨_, rfl⟩
  obtain ⟨Z, hZ⟩ : ∃ O : ByteArray, (⟨((tlX h [c] t).drop ((tlX h [c] t).length - 1)).toArray⟩ : ByteArray) = O := ⟨_, rfl⟩
  have HOS : Hid (O.size = (opn t).length) := hide (by rw [← hO, sizeA])
  have HTS : Hid (T.size = t.length) := hide (by rw [← hT, sizeA])
  have HSS : Hid (∀ W', SyB W' N l h [c] t → W'.cell? ⟨N, 0, none⟩ = some (.func (.yield l) #[] #[]) ∧ W'.cell? ⟨N + 1, 0, none⟩ = some (.string H) ∧ W'.cell? ⟨N + 2, 0, none⟩ = some (.string V) ∧ W'.cell? ⟨N + 3, 0, none⟩ = some (.string T)) := hide fun W' k =>
    ⟨(bx1 k.y).2, by rw [← hH]; exact (bx1 k.h).2, by rw [← hV]; exact (bx1 k.v).2, by rw [← hT]; exact (bx1 k.t).2⟩
  rw [hO, hT] at HTL
  rw [hH, hV, hHV] at ha1
  rw [hHV, hT, hX] at ha2
  rw [hX, hY, hZ] at HTX
  rw [hX] at hxs
  rw [hX, hZ, hxs] at hex
  rw [hV] at HRU
  have hxl : (tlX h [c] t).length = X.size := hxs.symm
  rw [hxl] at hex HXL
  have hx1 : 1 ≤ X.size := by have := HXL.out; omega
  have hx2 : X.size ≤ 1000 := by have := HXL.out; omega
  have i1 : (1 : Int) ≤ (X.size : Int) := by omega
  have i2 : (X.size : Int) - 1 ≤ (X.size : Int) := by omega
  have i3 : ((X.size : Int) - 1).toNat = X.size - 1 := by omega
  have HYY : Hid (∀ W1, OutK N M W W1 → SyB W1 N l (tlN last h [c] t) [] [] → YieldAt F n Tryd.prog l #[.agg #[.string (if tlK last t then Y else X), .int .u8 (wgB (lnB c.toNat || (decide (O.size < T.size) || decide (2 ≤ O.size))))]] W1 Q) := hide fun W1 h1 h2 => by
    have k := HY.out W1 h1 h2
    unfold sylE tlS tlT tlG at k
    rw [← hY, ← hX, HOS.out, HTS.out]
    cases hk : tlK last t
    · rw [hk] at k
      exact k
    · rw [hk] at k
      exact k
  have HZZ : Hid (tlK last t = true → Z = ⟨(tlN last h [c] t).toArray⟩) := hide fun hk => by unfold tlN; rw [if_pos hk, ← hZ]
  have HTK : Hid (tlK last t = (decide (0 < O.size) && !last)) := hide (by unfold tlK; rw [HOS.out])
  clear hO hT hH hV hHV hX hY hZ hxl hxs HY HXL HOS HTS hlen hc hNM hM hQ
  obtain ⟨cy, ch, cv, ct⟩ := HSS.out W hS
  have hN : N + 4 ≤ W.heap.size := by have := HNM.out; omega
  clear hS
  refine callsIn_of_wp Tryd.func99 rfl (hF _) ?_ hro
  simp only [Tryd.ntmps99, List.size_toArray, List.length_cons, List.length_nil, Nat.reduceAdd, Nat.reduceSub, Array.replicate_succ, Array.replicate_zero, List.push_toArray, List.append_toArray, List.nil_append, List.cons_append]
  gi_wp2_with fail
  (with_reducible refine (hwd (HTL.out _)).mono ?_)
  rintro e w1 ⟨rfl, hb1⟩
  have HS1 := hide (HS.out.ext hb1)
  have HK1 := hide (OutK.of_below (a := N) (b := M) hb1)
  have hz1 := hb1.size
  clear hb1 cy ch cv ct
  obtain ⟨cy, ch, cv, ct⟩ := HSS.out _ HS1.out
  have hbA := (Below.refl w1.heap.size w1).alloc (Nat.le_refl _) (.cells #[.string X, .int .u8 108] 118)
  have KA := Blk.new w1 118 #[.string X, .int .u8 108]
  have HSA := HS1.out.ext hbA
  have cvA : (w1.alloc (.cells #[.string X, .int .u8 108] 118)).cell? ⟨N + 2, 0, none⟩ = some (.string V) := (HSS.out _ HSA).2.2.1
  obtain ⟨cp, w3, hcv, hcc, hb3⟩ := HRU.out (w1.alloc (.cells #[.string X, .int .u8 108] 118))
  simp only [World.size_alloc] at hcv hcc
  have HS3 := hide (HSA.ext hb3)
  have HK3 := hide ((HK1.out.low hbA).low hb3)
  have KB3 := hide (KA.ext hb3)
  clear HSA hbA KA hb3
  gi_wp2_with fail
  (with_reducible refine (hwd (HIS.out _)).mono ?_)
  rintro e w4 ⟨rfl, hb4⟩
  have hb5 := ((Below.refl w3.heap.size w3).alloc (Nat.le_refl _) (.cells #[.string ⟨#[65, 73, 85, 101, 111]⟩] 9)).trans (hb4.mono (by simp))
  have HS4 := hide (HS3.out.ext hb5)
  have HK4 := hide (HK3.out.low hb5)
  have KB4 := hide (KB3.out.ext hb5)
  clear hb4 hb5 HS1 HK1 HS3 HK3 KB3 hcv hcc cvA cy ch cv ct
  obtain ⟨cy, ch, cv, ct⟩ := HSS.out _ HS4.out
  obtain ⟨s, hs⟩ : ∃ s, w1.heap.size = s := ⟨_, rfl⟩
  rw [hs] at KB4 ⊢
  have HSZ : Hid (N + 4 ≤ s ∧ W.heap.size ≤ s) := hide (by rw [← hs]; omega)
  clear hs hz1
  have kb := bx2 KB4.out
  have f0 := HS4.out.h.frozen 0
  have f1 := HS4.out.v.frozen 0
  have f2 := HS4.out.t.frozen 0
  have f3 := KB4.out.frozen 0
  have f4 := KB4.out.frozen 1
  obtain ⟨zs, k0, k1⟩ := kb
  have n1 : N + 1 ≠ s := by have := HSZ.out; omega
  have n2 : N + 2 ≠ s := by have := HSZ.out; omega
  have n3 : N + 3 ≠ s := by have := HSZ.out; omega
  have n4 : N ≠ s := by have := HSZ.out; omega
  have z4 : N + 4 ≤ w4.heap.size := by have := HSZ.out; omega
  have SyB4 : ∀ W', (W' = w4 ∨ ∃ b, W' = w4.setCell ⟨s, 1, none⟩ b) → SyB W' N l h [c] t := by
    rintro W' (rfl | ⟨b, rfl⟩)
    · exact HS4.out
    · have K := HS4.out
      exact ⟨K.y.far (by dsimp only; omega) _, K.h.far (by dsimp only; omega) _, K.v.far (by dsimp only; omega) _, K.t.far (by dsimp only; omega) _⟩
  rcases hln : lnB c.toNat with _ | _
  · rw [hln] at HYY
    clear hln
    by_cases hot : O.size < T.size
    · have hot' : (O.size : Int) < (T.size : Int) := by omega
      have he : (false || (decide (O.size < T.size) || decide (2 ≤ O.size))) = true := by rw [decide_eq_true hot]; rfl
      have HEE := hide he
      clear he
      by_cases ho : 0 < O.size
      · have ho' : (0 : Int) < (O.size : Int) := by omega
        rcases (by cases last <;> simp : last = false ∨ last = true) with hL | hL
        · have hk : tlK last t = true := by rw [HTK.out, hL]; simp [ho]
          have HKK := hide hk
          clear hk
          have ho5 : OutK N M W ((((((w4.setCell ⟨s, 1, none⟩ (.int .u8 103)).setCell ⟨N + 1, 0, none⟩ (.string ⟨#[]⟩)).setCell ⟨N + 1, 0, none⟩ (.string Z)).setCell ⟨s, 0, none⟩ (.string Y)).setCell ⟨N + 2, 0, none⟩ (.string ⟨#[]⟩)).setCell ⟨N + 3, 0, none⟩ (.string ⟨#[]⟩)) := ((((((HK4.out.setN (g := s) HSZ.out.2 1 _).setO (g := N + 1) (by omega) (by have := HNM.out; omega) 0 _).setO (g := N + 1) (by omega) (by have := HNM.out; omega) 0 _).setN (g := s) HSZ.out.2 0 _).setO (g := N + 2) (by omega) (by have := HNM.out; omega) 0 _).setO (g := N + 3) (by omega) (by have := HNM.out; omega) 0 _)
          have hs5 : SyB ((((((w4.setCell ⟨s, 1, none⟩ (.int .u8 103)).setCell ⟨N + 1, 0, none⟩ (.string ⟨#[]⟩)).setCell ⟨N + 1, 0, none⟩ (.string Z)).setCell ⟨s, 0, none⟩ (.string Y)).setCell ⟨N + 2, 0, none⟩ (.string ⟨#[]⟩)).setCell ⟨N + 3, 0, none⟩ (.string ⟨#[]⟩)) N l (tlN last h [c] t) [] [] := by
            have K : SyB (w4.setCell ⟨s, 1, none⟩ (.int .u8 103)) N l h [c] t := SyB4 _ (.inr ⟨_, rfl⟩)
            refine ⟨((((K.y.far (by dsimp only; omega) _).far (by dsimp only; omega) _).far (by dsimp only; omega) _).far (by dsimp only; omega) _).far (by dsimp only; omega) _, ?_, ((((K.v.far (by dsimp only; omega) _).far (by dsimp only; omega) _).far (by dsimp only; omega) _).set_ 0 _).far (by dsimp only; omega) _, ((((K.t.far (by dsimp only; omega) _).far (by dsimp only; omega) _).far (by dsimp only; omega) _).far (by dsimp only; omega) _).set_ 0 _⟩
            have := ((((K.h.set_ 0 (.string ⟨#[]⟩)).set_ 0 (.string Z)).far (p := ⟨s, 0, none⟩) (by dsimp only; omega) (.string Y)).far (p := ⟨N + 2, 0, none⟩) (by dsimp only; omega) (.string ⟨#[]⟩)).far (p := ⟨N + 3, 0, none⟩) (by dsimp only; omega) (.string ⟨#[]⟩)
            rw [← HZZ.out HKK.out]
            exact this
          have hY5 : YieldAt F (n - 1) Tryd.prog l #[.agg #[.string Y, .int .u8 103]] ((((((w4.setCell ⟨s, 1, none⟩ (.int .u8 103)).setCell ⟨N + 1, 0, none⟩ (.string ⟨#[]⟩)).setCell ⟨N + 1, 0, none⟩ (.string Z)).setCell ⟨s, 0, none⟩ (.string Y)).setCell ⟨N + 2, 0, none⟩ (.string ⟨#[]⟩)).setCell ⟨N + 3, 0, none⟩ (.string ⟨#[]⟩)) Q := by
            have k := HYY.out _ ho5 hs5
            have e1 : (if tlK last t = true then Y else X) = Y := by rw [HKK.out]; rfl
            rw [e1, HEE.out] at k
            exact YieldAt.any hroom k
          obtain ⟨fn, tmps, assign, body, hy, hR⟩ := hY5
          have HR := hide hR
          clear hR ho5 hs5
          have cz : (((w4.setCell ⟨s, 1, none⟩ (.int .u8 103)).setCell ⟨N + 1, 0, none⟩ (.string ⟨#[]⟩)).setCell ⟨N + 1, 0, none⟩ (.string Z)).cell? ⟨N + 1, 0, none⟩ = some (.string Z) := by
            have K : SyB (w4.setCell ⟨s, 1, none⟩ (.int .u8 103)) N l h [c] t := SyB4 _ (.inr ⟨_, rfl⟩)
            exact (bx1 ((K.h.set_ 0 (.string ⟨#[]⟩)).set_ 0 (.string Z))).2
          (try dsimp only)
          (repeat (first | go_values | gi_guarded | gi_step | gi_upon))
          (with_reducible refine (hwd (HTX.out _)).mono ?_)
          rintro e w6 ⟨rfl, rfl⟩
          (try dsimp only)
          (repeat (first | go_values | gi_guarded | gi_step | gi_upon))
          refine HR.out.mono ?_
          rintro e W3 hq
          obtain ⟨b, rfl⟩ := HQ.out _ _ hq
          have HQ3 := hide hq
          clear hq HR
          (try dsimp only)
          (repeat (first | go_values | gi_guarded | gi_step | gi_upon))
          first | exact HQ3.out | (go_ret; exact HQ3.out)
        · have hk : tlK last t = false := by rw [HTK.out, hL]; simp
          have HKK := hide hk
          clear hk
          have ho5 : OutK N M W ((((w4.setCell ⟨s, 1, none⟩ (.int .u8 103)).setCell ⟨N + 1, 0, none⟩ (.string ⟨#[]⟩)).setCell ⟨N + 2, 0, none⟩ (.string ⟨#[]⟩)).setCell ⟨N + 3, 0, none⟩ (.string ⟨#[]⟩)) := ((((HK4.out.setN (g := s) HSZ.out.2 1 _).setO (g := N + 1) (by omega) (by have := HNM.out; omega) 0 _).setO (g := N + 2) (by omega) (by have := HNM.out; omega) 0 _).setO (g := N + 3) (by omega) (by have := HNM.out; omega) 0 _)
          have hs5 : SyB ((((w4.setCell ⟨s, 1, none⟩ (.int .u8 103)).setCell ⟨N + 1, 0, none⟩ (.string ⟨#[]⟩)).setCell ⟨N + 2, 0, none⟩ (.string ⟨#[]⟩)).setCell ⟨N + 3, 0, none⟩ (.string ⟨#[]⟩)) N l (tlN last h [c] t) [] [] := by
            unfold tlN
            rw [HKK.out]
            have K : SyB (w4.setCell ⟨s, 1, none⟩ (.int .u8 103)) N l h [c] t := SyB4 _ (.inr ⟨_, rfl⟩)
            exact ⟨((K.y.far (by dsimp only; omega) _).far (by dsimp only; omega) _).far (by dsimp only; omega) _, ((K.h.set_ 0 _).far (by dsimp only; omega) _).far (by dsimp only; omega) _, ((K.v.far (by dsimp only; omega) _).set_ 0 _).far (by dsimp only; omega) _, ((K.t.far (by dsimp only; omega) _).far (by dsimp only; omega) _).set_ 0 _⟩
          have hY5 : YieldAt F (n - 1) Tryd.prog l #[.agg #[.string X, .int .u8 103]] ((((w4.setCell ⟨s, 1, none⟩ (.int .u8 103)).setCell ⟨N + 1, 0, none⟩ (.string ⟨#[]⟩)).setCell ⟨N + 2, 0, none⟩ (.string ⟨#[]⟩)).setCell ⟨N + 3, 0, none⟩ (.string ⟨#[]⟩)) Q := by
            have k := HYY.out _ ho5 hs5
            have e1 : (if tlK last t = true then Y else X) = X := by rw [HKK.out]; rfl
            rw [e1, HEE.out] at k
            exact YieldAt.any hroom k
          obtain ⟨fn, tmps, assign, body, hy, hR⟩ := hY5
          have HR := hide hR
          clear hR ho5 hs5
          (try dsimp only)
          (repeat (first | go_values | gi_guarded | gi_step | gi_upon))
          refine HR.out.mono ?_
          rintro e W3 hq
          obtain ⟨b, rfl⟩ := HQ.out _ _ hq
          have HQ3 := hide hq
          clear hq HR
          (try dsimp only)
          (repeat (first | go_values | gi_guarded | gi_step | gi_upon))
          first | exact HQ3.out | (go_ret; exact HQ3.out)
      · have ho' : ¬ (0 : Int) < (O.size : Int) := by omega
        have hk : tlK last t = false := by rw [HTK.out]; simp [ho]
        have HKK := hide hk
        clear hk
        have ho5 : OutK N M W ((((w4.setCell ⟨s, 1, none⟩ (.int .u8 103)).setCell ⟨N + 1, 0, none⟩ (.string ⟨#[]⟩)).setCell ⟨N + 2, 0, none⟩ (.string ⟨#[]⟩)).setCell ⟨N + 3, 0, none⟩ (.string ⟨#[]⟩)) := ((((HK4.out.setN (g := s) HSZ.out.2 1 _).setO (g := N + 1) (by omega) (by have := HNM.out; omega) 0 _).setO (g := N + 2) (by omega) (by have := HNM.out; omega) 0 _).setO (g := N + 3) (by omega) (by have := HNM.out; omega) 0 _)
        have hs5 : SyB ((((w4.setCell ⟨s, 1, none⟩ (.int .u8 103)).setCell ⟨N + 1, 0, none⟩ (.string ⟨#[]⟩)).setCell ⟨N + 2, 0, none⟩ (.string ⟨#[]⟩)).setCell ⟨N + 3, 0, none⟩ (.string ⟨#[]⟩)) N l (tlN last h [c] t) [] [] := by
          unfold tlN
          rw [HKK.out]
          have K : SyB (w4.setCell ⟨s, 1, none⟩ (.int .u8 103)) N l h [c] t := SyB4 _ (.inr ⟨_, rfl⟩)
          exact ⟨((K.y.far (by dsimp only; omega) _).far (by dsimp only; omega) _).far (by dsimp only; omega) _, ((K.h.set_ 0 _).far (by dsimp only; omega) _).far (by dsimp only; omega) _, ((K.v.far (by dsimp only; omega) _).set_ 0 _).far (by dsimp only; omega) _, ((K.t.far (by dsimp only; omega) _).far (by dsimp only; omega) _).set_ 0 _⟩
        have hY5 : YieldAt F (n - 1) Tryd.prog l #[.agg #[.string X, .int .u8 103]] ((((w4.setCell ⟨s, 1, none⟩ (.int .u8 103)).setCell ⟨N + 1, 0, none⟩ (.string ⟨#[]⟩)).setCell ⟨N + 2, 0, none⟩ (.string ⟨#[]⟩)).setCell ⟨N + 3, 0, none⟩ (.string ⟨#[]⟩)) Q := by
          have k := HYY.out _ ho5 hs5
          have e1 : (if tlK last t = true then Y else X) = X := by rw [HKK.out]; rfl
          rw [e1, HEE.out] at k
          exact YieldAt.any hroom k
        obtain ⟨fn, tmps, assign, body, hy, hR⟩ := hY5
        have HR := hide hR
        clear hR ho5 hs5
        (try dsimp only)
        (repeat (first | go_values | gi_guarded | gi_step | gi_upon))
        refine HR.out.mono ?_
        rintro e W3 hq
        obtain ⟨b, rfl⟩ := HQ.out _ _ hq
        have HQ3 := hide hq
        clear hq HR
        (try dsimp only)
        (repeat (first | go_values | gi_guarded | gi_step | gi_upon))
        first | exact HQ3.out | (go_ret; exact HQ3.out)
    · have hot' : ¬ (O.size : Int) < (T.size : Int) := by omega
      by_cases h2 : 2 ≤ O.size
      · have h2' : (2 : Int) ≤ (O.size : Int) := by omega
        have he : (false || (decide (O.size < T.size) || decide (2 ≤ O.size))) = true := by rw [decide_eq_true h2, Bool.or_true]; rfl
        have HEE := hide he
        clear he
        have ho : 0 < O.size := by omega
        have ho' : (0 : Int) < (O.size : Int) := by omega
        rcases (by cases last <;> simp : last = false ∨ last = true) with hL | hL
        · have hk : tlK last t = true := by rw [HTK.out, hL]; simp [ho]
          have HKK := hide hk
          clear hk
          have ho5 : OutK N M W ((((((w4.setCell ⟨s, 1, none⟩ (.int .u8 103)).setCell ⟨N + 1, 0, none⟩ (.string ⟨#[]⟩)).setCell ⟨N + 1, 0, none⟩ (.string Z)).setCell ⟨s, 0, none⟩ (.string Y)).setCell ⟨N + 2, 0, none⟩ (.string ⟨#[]⟩)).setCell ⟨N + 3, 0, none⟩ (.string ⟨#[]⟩)) := ((((((HK4.out.setN (g := s) HSZ.out.2 1 _).setO (g := N + 1) (by omega) (by have := HNM.out; omega) 0 _).setO (g := N + 1) (by omega) (by have := HNM.out; omega) 0 _).setN (g := s) HSZ.out.2 0 _).setO (g := N + 2) (by omega) (by have := HNM.out; omega) 0 _).setO (g := N + 3) (by omega) (by have := HNM.out; omega) 0 _)
          have hs5 : SyB ((((((w4.setCell ⟨s, 1, none⟩ (.int .u8 103)).setCell ⟨N + 1, 0, none⟩ (.string ⟨#[]⟩)).setCell ⟨N + 1, 0, none⟩ (.string Z)).setCell ⟨s, 0, none⟩ (.string Y)).setCell ⟨N + 2, 0, none⟩ (.string ⟨#[]⟩)).setCell ⟨N + 3, 0, none⟩ (.string ⟨#[]⟩)) N l (tlN last h [c] t) [] [] := by
            have K : SyB (w4.setCell ⟨s, 1, none⟩ (.int .u8 103)) N l h [c] t := SyB4 _ (.inr ⟨_, rfl⟩)
            refine ⟨((((K.y.far (by dsimp only; omega) _).far (by dsimp only; omega) _).far (by dsimp only; omega) _).far (by dsimp only; omega) _).far (by dsimp only; omega) _, ?_, ((((K.v.far (by dsimp only; omega) _).far (by dsimp only; omega) _).far (by dsimp only; omega) _).set_ 0 _).far (by dsimp only; omega) _, ((((K.t.far (by dsimp only; omega) _).far (by dsimp only; omega) _).far (by dsimp only; omega) _).far (by dsimp only; omega) _).set_ 0 _⟩
            have := ((((K.h.set_ 0 (.string ⟨#[]⟩)).set_ 0 (.string Z)).far (p := ⟨s, 0, none⟩) (by dsimp only; omega) (.string Y)).far (p := ⟨N + 2, 0, none⟩) (by dsimp only; omega) (.string ⟨#[]⟩)).far (p := ⟨N + 3, 0, none⟩) (by dsimp only; omega) (.string ⟨#[]⟩)
            rw [← HZZ.out HKK.out]
            exact this
          have hY5 : YieldAt F (n - 1) Tryd.prog l #[.agg #[.string Y, .int .u8 103]] ((((((w4.setCell ⟨s, 1, none⟩ (.int .u8 103)).setCell ⟨N + 1, 0, none⟩ (.string ⟨#[]⟩)).setCell ⟨N + 1, 0, none⟩ (.string Z)).setCell ⟨s, 0, none⟩ (.string Y)).setCell ⟨N + 2, 0, none⟩ (.string ⟨#[]⟩)).setCell ⟨N + 3, 0, none⟩ (.string ⟨#[]⟩)) Q := by
            have k := HYY.out _ ho5 hs5
            have e1 : (if tlK last t = true then Y else X) = Y := by rw [HKK.out]; rfl
            rw [e1, HEE.out] at k
            exact YieldAt.any hroom k
          obtain ⟨fn, tmps, assign, body, hy, hR⟩ := hY5
          have HR := hide hR
          clear hR ho5 hs5
          have cz : (((w4.setCell ⟨s, 1, none⟩ (.int .u8 103)).setCell ⟨N + 1, 0, none⟩ (.string ⟨#[]⟩)).setCell ⟨N + 1, 0, none⟩ (.string Z)).cell? ⟨N + 1, 0, none⟩ = some (.string Z) := by
            have K : SyB (w4.setCell ⟨s, 1, none⟩ (.int .u8 103)) N l h [c] t := SyB4 _ (.inr ⟨_, rfl⟩)
            exact (bx1 ((K.h.set_ 0 (.string ⟨#[]⟩)).set_ 0 (.string Z))).2
          (try dsimp only)
          (repeat (first | go_values | gi_guarded | gi_step | gi_upon))
          (with_reducible refine (hwd (HTX.out _)).mono ?_)
          rintro e w6 ⟨rfl, rfl⟩
          (try dsimp only)
          (repeat (first | go_values | gi_guarded | gi_step | gi_upon))
          refine HR.out.mono ?_
          rintro e W3 hq
          obtain ⟨b, rfl⟩ := HQ.out _ _ hq
          have HQ3 := hide hq
          clear hq HR
          (try dsimp only)
          (repeat (first | go_values | gi_guarded | gi_step | gi_upon))
          first | exact HQ3.out | (go_ret; exact HQ3.out)
        · have hk : tlK last t = false := by rw [HTK.out, hL]; simp
          have HKK := hide hk
          clear hk
          have ho5 : OutK N M W ((((w4.setCell ⟨s, 1, none⟩ (.int .u8 103)).setCell ⟨N + 1, 0, none⟩ (.string ⟨#[]⟩)).setCell ⟨N + 2, 0, none⟩ (.string ⟨#[]⟩)).setCell ⟨N + 3, 0, none⟩ (.string ⟨#[]⟩)) := ((((HK4.out.setN (g := s) HSZ.out.2 1 _).setO (g := N + 1) (by omega) (by have := HNM.out; omega) 0 _).setO (g := N + 2) (by omega) (by have := HNM.out; omega) 0 _).setO (g := N + 3) (by omega) (by have := HNM.out; omega) 0 _)
          have hs5 : SyB ((((w4.setCell ⟨s, 1, none⟩ (.int .u8 103)).setCell ⟨N + 1, 0, none⟩ (.string ⟨#[]⟩)).setCell ⟨N + 2, 0, none⟩ (.string ⟨#[]⟩)).setCell ⟨N + 3, 0, none⟩ (.string ⟨#[]⟩)) N l (tlN last h [c] t) [] [] := by
            unfold tlN
            rw [HKK.out]
            have K : SyB (w4.setCell ⟨s, 1, none⟩ (.int .u8 103)) N l h [c] t := SyB4 _ (.inr ⟨_, rfl⟩)
            exact ⟨((K.y.far (by dsimp only; omega) _).far (by dsimp only; omega) _).far (by dsimp only; omega) _, ((K.h.set_ 0 _).far (by dsimp only; omega) _).far (by dsimp only; omega) _, ((K.v.far (by dsimp only; omega) _).set_ 0 _).far (by dsimp only; omega) _, ((K.t.far (by dsimp only; omega) _).far (by dsimp only; omega) _).set_ 0 _⟩
          have hY5 : YieldAt F (n - 1) Tryd.prog l #[.agg #[.string X, .int .u8 103]] ((((w4.setCell ⟨s, 1, none⟩ (.int .u8 103)).setCell ⟨N + 1, 0, none⟩ (.string ⟨#[]⟩)).setCell ⟨N + 2, 0, none⟩ (.string ⟨#[]⟩)).setCell ⟨N + 3, 0, none⟩ (.string ⟨#[]⟩)) Q := by
            have k := HYY.out _ ho5 hs5
            have e1 : (if tlK last t = true then Y else X) = X := by rw [HKK.out]; rfl
            rw [e1, HEE.out] at k
            exact YieldAt.any hroom k
          obtain ⟨fn, tmps, assign, body, hy, hR⟩ := hY5
          have HR := hide hR
          clear hR ho5 hs5
          (try dsimp only)
          (repeat (first | go_values | gi_guarded | gi_step | gi_upon))
          refine HR.out.mono ?_
          rintro e W3 hq
          obtain ⟨b, rfl⟩ := HQ.out _ _ hq
          have HQ3 := hide hq
          clear hq HR
          (try dsimp only)
          (repeat (first | go_values | gi_guarded | gi_step | gi_upon))
          first | exact HQ3.out | (go_ret; exact HQ3.out)
      · have h2' : ¬ (2 : Int) ≤ (O.size : Int) := by omega
        have he : (false || (decide (O.size < T.size) || decide (2 ≤ O.size))) = false := by rw [decide_eq_false hot, decide_eq_false h2]; rfl
        have HEE := hide he
        clear he
        by_cases ho : 0 < O.size
        · have ho' : (0 : Int) < (O.size : Int) := by omega
          rcases (by cases last <;> simp : last = false ∨ last = true) with hL | hL
          · have hk : tlK last t = true := by rw [HTK.out, hL]; simp [ho]
            have HKK := hide hk
            clear hk
            have ho5 : OutK N M W (((((w4.setCell ⟨N + 1, 0, none⟩ (.string ⟨#[]⟩)).setCell ⟨N + 1, 0, none⟩ (.string Z)).setCell ⟨s, 0, none⟩ (.string Y)).setCell ⟨N + 2, 0, none⟩ (.string ⟨#[]⟩)).setCell ⟨N + 3, 0, none⟩ (.string ⟨#[]⟩)) := ((((((HK4.out).setO (g := N + 1) (by omega) (by have := HNM.out; omega) 0 _).setO (g := N + 1) (by omega) (by have := HNM.out; omega) 0 _).setN (g := s) HSZ.out.2 0 _).setO (g := N + 2) (by omega) (by have := HNM.out; omega) 0 _).setO (g := N + 3) (by omega) (by have := HNM.out; omega) 0 _)
            have hs5 : SyB (((((w4.setCell ⟨N + 1, 0, none⟩ (.string ⟨#[]⟩)).setCell ⟨N + 1, 0, none⟩ (.string Z)).setCell ⟨s, 0, none⟩ (.string Y)).setCell ⟨N + 2, 0, none⟩ (.string ⟨#[]⟩)).setCell ⟨N + 3, 0, none⟩ (.string ⟨#[]⟩)) N l (tlN last h [c] t) [] [] := by
              have K : SyB w4 N l h [c] t := SyB4 _ (.inl rfl)
              refine ⟨((((K.y.far (by dsimp only; omega) _).far (by dsimp only; omega) _).far (by dsimp only; omega) _).far (by dsimp only; omega) _).far (by dsimp only; omega) _, ?_, ((((K.v.far (by dsimp only; omega) _).far (by dsimp only; omega) _).far (by dsimp only; omega) _).set_ 0 _).far (by dsimp only; omega) _, ((((K.t.far (by dsimp only; omega) _).far (by dsimp only; omega) _).far (by dsimp only; omega) _).far (by dsimp only; omega) _).set_ 0 _⟩
              have := ((((K.h.set_ 0 (.string ⟨#[]⟩)).set_ 0 (.string Z)).far (p := ⟨s, 0, none⟩) (by dsimp only; omega) (.string Y)).far (p := ⟨N + 2, 0, none⟩) (by dsimp only; omega) (.string ⟨#[]⟩)).far (p := ⟨N + 3, 0, none⟩) (by dsimp only; omega) (.string ⟨#[]⟩)
              rw [← HZZ.out HKK.out]
              exact this
            have hY5 : YieldAt F (n - 1) Tryd.prog l #[.agg #[.string Y, .int .u8 108]] (((((w4.setCell ⟨N + 1, 0, none⟩ (.string ⟨#[]⟩)).setCell ⟨N + 1, 0, none⟩ (.string Z)).setCell ⟨s, 0, none⟩ (.string Y)).setCell ⟨N + 2, 0, none⟩ (.string ⟨#[]⟩)).setCell ⟨N + 3, 0, none⟩ (.string ⟨#[]⟩)) Q := by
              have k := HYY.out _ ho5 hs5
              have e1 : (if tlK last t = true then Y else X) = Y := by rw [HKK.out]; rfl
              rw [e1, HEE.out] at k
              exact YieldAt.any hroom k
            obtain ⟨fn, tmps, assign, body, hy, hR⟩ := hY5
            have HR := hide hR
            clear hR ho5 hs5
            have cz : ((w4.setCell ⟨N + 1, 0, none⟩ (.string ⟨#[]⟩)).setCell ⟨N + 1, 0, none⟩ (.string Z)).cell? ⟨N + 1, 0, none⟩ = some (.string Z) := by
              have K : SyB w4 N l h [c] t := SyB4 _ (.inl rfl)
              exact (bx1 ((K.h.set_ 0 (.string ⟨#[]⟩)).set_ 0 (.string Z))).2
            (try dsimp only)
            (repeat (first | go_values | gi_guarded | gi_step | gi_upon))
            (with_reducible refine (hwd (HTX.out _)).mono ?_)
            rintro e w6 ⟨rfl, rfl⟩
            (try dsimp only)
            (repeat (first | go_values | gi_guarded | gi_step | gi_upon))
            refine HR.out.mono ?_
            rintro e W3 hq
            obtain ⟨b, rfl⟩ := HQ.out _ _ hq
            have HQ3 := hide hq
            clear hq HR
            (try dsimp only)
            (repeat (first | go_values | gi_guarded | gi_step | gi_upon))
            first | exact HQ3.out | (go_ret; exact HQ3.out)
          · have hk : tlK last t = false := by rw [HTK.out, hL]; simp
            have HKK := hide hk
            clear hk
            have ho5 : OutK N M W (((w4.setCell ⟨N + 1, 0, none⟩ (.string ⟨#[]⟩)).setCell ⟨N + 2, 0, none⟩ (.string ⟨#[]⟩)).setCell ⟨N + 3, 0, none⟩ (.string ⟨#[]⟩)) := ((((HK4.out).setO (g := N + 1) (by omega) (by have := HNM.out; omega) 0 _).setO (g := N + 2) (by omega) (by have := HNM.out; omega) 0 _).setO (g := N + 3) (by omega) (by have := HNM.out; omega) 0 _)
            have hs5 : SyB (((w4.setCell ⟨N + 1, 0, none⟩ (.string ⟨#[]⟩)).setCell ⟨N + 2, 0, none⟩ (.string ⟨#[]⟩)).setCell ⟨N + 3, 0, none⟩ (.string ⟨#[]⟩)) N l (tlN last h [c] t) [] [] := by
              unfold tlN
              rw [HKK.out]
              have K : SyB w4 N l h [c] t := SyB4 _ (.inl rfl)
              exact ⟨((K.y.far (by dsimp only; omega) _).far (by dsimp only; omega) _).far (by dsimp only; omega) _, ((K.h.set_ 0 _).far (by dsimp only; omega) _).far (by dsimp only; omega) _, ((K.v.far (by dsimp only; omega) _).set_ 0 _).far (by dsimp only; omega) _, ((K.t.far (by dsimp only; omega) _).far (by dsimp only; omega) _).set_ 0 _⟩
            have hY5 : YieldAt F (n - 1) Tryd.prog l #[.agg #[.string X, .int .u8 108]] (((w4.setCell ⟨N + 1, 0, none⟩ (.string ⟨#[]⟩)).setCell ⟨N + 2, 0, none⟩ (.string ⟨#[]⟩)).setCell ⟨N + 3, 0, none⟩ (.string ⟨#[]⟩)) Q := by
              have k := HYY.out _ ho5 hs5
              have e1 : (if tlK last t = true then Y else X) = X := by rw [HKK.out]; rfl
              rw [e1, HEE.out] at k
              exact YieldAt.any hroom k
            obtain ⟨fn, tmps, assign, body, hy, hR⟩ := hY5
            have HR := hide hR
            clear hR ho5 hs5
            (try dsimp only)
            (repeat (first | go_values | gi_guarded | gi_step | gi_upon))
            refine HR.out.mono ?_
            rintro e W3 hq
            obtain ⟨b, rfl⟩ := HQ.out _ _ hq
            have HQ3 := hide hq
            clear hq HR
            (try dsimp only)
            (repeat (first | go_values | gi_guarded | gi_step | gi_upon))
            first | exact HQ3.out | (go_ret; exact HQ3.out)
        · have ho' : ¬ (0 : Int) < (O.size : Int) := by omega
          have hk : tlK last t = false := by rw [HTK.out]; simp [ho]
          have HKK := hide hk
          clear hk
          have ho5 : OutK N M W (((w4.setCell ⟨N + 1, 0, none⟩ (.string ⟨#[]⟩)).setCell ⟨N + 2, 0, none⟩ (.string ⟨#[]⟩)).setCell ⟨N + 3, 0, none⟩ (.string ⟨#[]⟩)) := ((((HK4.out).setO (g := N + 1) (by omega) (by have := HNM.out; omega) 0 _).setO (g := N + 2) (by omega) (by have := HNM.out; omega) 0 _).setO (g := N + 3) (by omega) (by have := HNM.out; omega) 0 _)
          have hs5 : SyB (((w4.setCell ⟨N + 1, 0, none⟩ (.string ⟨#[]⟩)).setCell ⟨N + 2, 0, none⟩ (.string ⟨#[]⟩)).setCell ⟨N + 3, 0, none⟩ (.string ⟨#[]⟩)) N l (tlN last h [c] t) [] [] := by
            unfold tlN
            rw [HKK.out]
            have K : SyB w4 N l h [c] t := SyB4 _ (.inl rfl)
            exact ⟨((K.y.far (by dsimp only; omega) _).far (by dsimp only; omega) _).far (by dsimp only; omega) _, ((K.h.set_ 0 _).far (by dsimp only; omega) _).far (by dsimp only; omega) _, ((K.v.far (by dsimp only; omega) _).set_ 0 _).far (by dsimp only; omega) _, ((K.t.far (by dsimp only; omega) _).far (by dsimp only; omega) _).set_ 0 _⟩
          have hY5 : YieldAt F (n - 1) Tryd.prog l #[.agg #[.string X, .int .u8 108]] (((w4.setCell ⟨N + 1, 0, none⟩ (.string ⟨#[]⟩)).setCell ⟨N + 2, 0, none⟩ (.string ⟨#[]⟩)).setCell ⟨N + 3, 0, none⟩ (.string ⟨#[]⟩)) Q := by
            have k := HYY.out _ ho5 hs5
            have e1 : (if tlK last t = true then Y else X) = X := by rw [HKK.out]; rfl
            rw [e1, HEE.out] at k
            exact YieldAt.any hroom k
          obtain ⟨fn, tmps, assign, body, hy, hR⟩ := hY5
          have HR := hide hR
          clear hR ho5 hs5
          (try dsimp only)
          (repeat (first | go_values | gi_guarded | gi_step | gi_upon))
          refine HR.out.mono ?_
          rintro e W3 hq
          obtain ⟨b, rfl⟩ := HQ.out _ _ hq
          have HQ3 := hide hq
          clear hq HR
          (try dsimp only)
          (repeat (first | go_values | gi_guarded | gi_step | gi_upon))
          first | exact HQ3.out | (go_ret; exact HQ3.out)
  · rw [hln] at HYY
    have he : (true || (decide (O.size < T.size) || decide (2 ≤ O.size))) = true := rfl
    clear hln
    have HEE := hide he
    clear he
    by_cases ho : 0 < O.size
    · have ho' : (0 : Int) < (O.size : Int) := by omega
      rcases (by cases last <;> simp : last = false ∨ last = true) with hL | hL
      · have hk : tlK last t = true := by rw [HTK.out, hL]; simp [ho]
        have HKK := hide hk
        clear hk
        have ho5 : OutK N M W ((((((w4.setCell ⟨s, 1, none⟩ (.int .u8 103)).setCell ⟨N + 1, 0, none⟩ (.string ⟨#[]⟩)).setCell ⟨N + 1, 0, none⟩ (.string Z)).setCell ⟨s, 0, none⟩ (.string Y)).setCell ⟨N + 2, 0, none⟩ (.string ⟨#[]⟩)).setCell ⟨N + 3, 0, none⟩ (.string ⟨#[]⟩)) := ((((((HK4.out.setN (g := s) HSZ.out.2 1 _).setO (g := N + 1) (by omega) (by have := HNM.out; omega) 0 _).setO (g := N + 1) (by omega) (by have := HNM.out; omega) 0 _).setN (g := s) HSZ.out.2 0 _).setO (g := N + 2) (by omega) (by have := HNM.out; omega) 0 _).setO (g := N + 3) (by omega) (by have := HNM.out; omega) 0 _)
        have hs5 : SyB ((((((w4.setCell ⟨s, 1, none⟩ (.int .u8 103)).setCell ⟨N + 1, 0, none⟩ (.string ⟨#[]⟩)).setCell ⟨N + 1, 0, none⟩ (.string Z)).setCell ⟨s, 0, none⟩ (.string Y)).setCell ⟨N + 2, 0, none⟩ (.string ⟨#[]⟩)).setCell ⟨N + 3, 0, none⟩ (.string ⟨#[]⟩)) N l (tlN last h [c] t) [] [] := by
          have K : SyB (w4.setCell ⟨s, 1, none⟩ (.int .u8 103)) N l h [c] t := SyB4 _ (.inr ⟨_, rfl⟩)
          refine ⟨((((K.y.far (by dsimp only; omega) _).far (by dsimp only; omega) _).far (by dsimp only; omega) _).far (by dsimp only; omega) _).far (by dsimp only; omega) _, ?_, ((((K.v.far (by dsimp only; omega) _).far (by dsimp only; omega) _).far (by dsimp only; omega) _).set_ 0 _).far (by dsimp only; omega) _, ((((K.t.far (by dsimp only; omega) _).far (by dsimp only; omega) _).far (by dsimp only; omega) _).far (by dsimp only; omega) _).set_ 0 _⟩
          have := ((((K.h.set_ 0 (.string ⟨#[]⟩)).set_ 0 (.string Z)).far (p := ⟨s, 0, none⟩) (by dsimp only; omega) (.string Y)).far (p := ⟨N + 2, 0, none⟩) (by dsimp only; omega) (.string ⟨#[]⟩)).far (p := ⟨N + 3, 0, none⟩) (by dsimp only; omega) (.string ⟨#[]⟩)
          rw [← HZZ.out HKK.out]
          exact this
        have hY5 : YieldAt F (n - 1) Tryd.prog l #[.agg #[.string Y, .int .u8 103]] ((((((w4.setCell ⟨s, 1, none⟩ (.int .u8 103)).setCell ⟨N + 1, 0, none⟩ (.string ⟨#[]⟩)).setCell ⟨N + 1, 0, none⟩ (.string Z)).setCell ⟨s, 0, none⟩ (.string Y)).setCell ⟨N + 2, 0, none⟩ (.string ⟨#[]⟩)).setCell ⟨N + 3, 0, none⟩ (.string ⟨#[]⟩)) Q := by
          have k := HYY.out _ ho5 hs5
          have e1 : (if tlK last t = true then Y else X) = Y := by rw [HKK.out]; rfl
          rw [e1, HEE.out] at k
          exact YieldAt.any hroom k
        obtain ⟨fn, tmps, assign, body, hy, hR⟩ := hY5
        have HR := hide hR
        clear hR ho5 hs5
        have cz : (((w4.setCell ⟨s, 1, none⟩ (.int .u8 103)).setCell ⟨N + 1, 0, none⟩ (.string ⟨#[]⟩)).setCell ⟨N + 1, 0, none⟩ (.string Z)).cell? ⟨N + 1, 0, none⟩ = some (.string Z) := by
          have K : SyB (w4.setCell ⟨s, 1, none⟩ (.int .u8 103)) N l h [c] t := SyB4 _ (.inr ⟨_, rfl⟩)
          exact (bx1 ((K.h.set_ 0 (.string ⟨#[]⟩)).set_ 0 (.string Z))).2
        (try dsimp only)
        (repeat (first | go_values | gi_guarded | gi_step | gi_upon))
        (with_reducible refine (hwd (HTX.out _)).mono ?_)
        rintro e w6 ⟨rfl, rfl⟩
        (try dsimp only)
        (repeat (first | go_values | gi_guarded | gi_step | gi_upon))
        refine HR.out.mono ?_
        rintro e W3 hq
        obtain ⟨b, rfl⟩ := HQ.out _ _ hq
        have HQ3 := hide hq
        clear hq HR
        (try dsimp only)
        (repeat (first | go_values | gi_guarded | gi_step | gi_upon))
        first | exact HQ3.out | (go_ret; exact HQ3.out)
      · have hk : tlK last t = false := by rw [HTK.out, hL]; simp
        have HKK := hide hk
        clear hk
        have ho5 : OutK N M W ((((w4.setCell ⟨s, 1, none⟩ (.int .u8 103)).setCell ⟨N + 1, 0, none⟩ (.string ⟨#[]⟩)).setCell ⟨N + 2, 0, none⟩ (.string ⟨#[]⟩)).setCell ⟨N + 3, 0, none⟩ (.string ⟨#[]⟩)) := ((((HK4.out.setN (g := s) HSZ.out.2 1 _).setO (g := N + 1) (by omega) (by have := HNM.out; omega) 0 _).setO (g := N + 2) (by omega) (by have := HNM.out; omega) 0 _).setO (g := N + 3) (by omega) (by have := HNM.out; omega) 0 _)
        have hs5 : SyB ((((w4.setCell ⟨s, 1, none⟩ (.int .u8 103)).setCell ⟨N + 1, 0, none⟩ (.string ⟨#[]⟩)).setCell ⟨N + 2, 0, none⟩ (.string ⟨#[]⟩)).setCell ⟨N + 3, 0, none⟩ (.string ⟨#[]⟩)) N l (tlN last h [c] t) [] [] := by
          unfold tlN
          rw [HKK.out]
          have K : SyB (w4.setCell ⟨s, 1, none⟩ (.int .u8 103)) N l h [c] t := SyB4 _ (.inr ⟨_, rfl⟩)
          exact ⟨((K.y.far (by dsimp only; omega) _).far (by dsimp only; omega) _).far (by dsimp only; omega) _, ((K.h.set_ 0 _).far (by dsimp only; omega) _).far (by dsimp only; omega) _, ((K.v.far (by dsimp only; omega) _).set_ 0 _).far (by dsimp only; omega) _, ((K.t.far (by dsimp only; omega) _).far (by dsimp only; omega) _).set_ 0 _⟩
        have hY5 : YieldAt F (n - 1) Tryd.prog l #[.agg #[.string X, .int .u8 103]] ((((w4.setCell ⟨s, 1, none⟩ (.int .u8 103)).setCell ⟨N + 1, 0, none⟩ (.string ⟨#[]⟩)).setCell ⟨N + 2, 0, none⟩ (.string ⟨#[]⟩)).setCell ⟨N + 3, 0, none⟩ (.string ⟨#[]⟩)) Q := by
          have k := HYY.out _ ho5 hs5
          have e1 : (if tlK last t = true then Y else X) = X := by rw [HKK.out]; rfl
          rw [e1, HEE.out] at k
          exact YieldAt.any hroom k
        obtain ⟨fn, tmps, assign, body, hy, hR⟩ := hY5
        have HR := hide hR
        clear hR ho5 hs5
        (try dsimp only)
        (repeat (first | go_values | gi_guarded | gi_step | gi_upon))
        refine HR.out.mono ?_
        rintro e W3 hq
        obtain ⟨b, rfl⟩ := HQ.out _ _ hq
        have HQ3 := hide hq
        clear hq HR
        (try dsimp only)
        (repeat (first | go_values | gi_guarded | gi_step | gi_upon))
        first | exact HQ3.out | (go_ret; exact HQ3.out)
    · have ho' : ¬ (0 : Int) < (O.size : Int) := by omega
      have hk : tlK last t = false := by rw [HTK.out]; simp [ho]
      have HKK := hide hk
      clear hk
      have ho5 : OutK N M W ((((w4.setCell ⟨s, 1, none⟩ (.int .u8 103)).setCell ⟨N + 1, 0, none⟩ (.string ⟨#[]⟩)).setCell ⟨N + 2, 0, none⟩ (.string ⟨#[]⟩)).setCell ⟨N + 3, 0, none⟩ (.string ⟨#[]⟩)) := ((((HK4.out.setN (g := s) HSZ.out.2 1 _).setO (g := N + 1) (by omega) (by have := HNM.out; omega) 0 _).setO (g := N + 2) (by omega) (by have := HNM.out; omega) 0 _).setO (g := N + 3) (by omega) (by have := HNM.out; omega) 0 _)
      have hs5 : SyB ((((w4.setCell ⟨s, 1, none⟩ (.int .u8 103)).setCell ⟨N + 1, 0, none⟩ (.string ⟨#[]⟩)).setCell ⟨N + 2, 0, none⟩ (.string ⟨#[]⟩)).setCell ⟨N + 3, 0, none⟩ (.string ⟨#[]⟩)) N l (tlN last h [c] t) [] [] := by
        unfold tlN
        rw [HKK.out]
        have K : SyB (w4.setCell ⟨s, 1, none⟩ (.int .u8 103)) N l h [c] t := SyB4 _ (.inr ⟨_, rfl⟩)
        exact ⟨((K.y.far (by dsimp only; omega) _).far (by dsimp only; omega) _).far (by dsimp only; omega) _, ((K.h.set_ 0 _).far (by dsimp only; omega) _).far (by dsimp only; omega) _, ((K.v.far (by dsimp only; omega) _).set_ 0 _).far (by dsimp only; omega) _, ((K.t.far (by dsimp only; omega) _).far (by dsimp only; omega) _).set_ 0 _⟩
      have hY5 : YieldAt F (n - 1) Tryd.prog l #[.agg #[.string X, .int .u8 103]] ((((w4.setCell ⟨s, 1, none⟩ (.int .u8 103)).setCell ⟨N + 1, 0, none⟩ (.string ⟨#[]⟩)).setCell ⟨N + 2, 0, none⟩ (.string ⟨#[]⟩)).setCell ⟨N + 3, 0, none⟩ (.string ⟨#[]⟩)) Q := by
        have k := HYY.out _ ho5 hs5
        have e1 : (if tlK last t = true then Y else X) = X := by rw [HKK.out]; rfl
        rw [e1, HEE.out] at k
        exact YieldAt.any hroom k
      obtain ⟨fn, tmps, assign, body, hy, hR⟩ := hY5
      have HR := hide hR
      clear hR ho5 hs5
      (try dsimp only)
      (repeat (first | go_values | gi_guarded | gi_step | gi_upon))
      refine HR.out.mono ?_
      rintro e W3 hq
      obtain ⟨b, rfl⟩ := HQ.out _ _ hq
      have HQ3 := hide hq
      clear hq HR
      (try dsimp only)
      (repeat (first | go_values | gi_guarded | gi_step | gi_upon))
      first | exact HQ3.out | (go_ret; exact HQ3.out)
end Go.Proofs.YtlkkkgpcjdemdaaDoor
/- Song: the iterator over syllables, walked. -/
namespace Go.Proofs.YtlkkkgpcjdemdaaDoor
open Go Go.RowKit Go.Shelf
attribute [local go_sem] Oper.semAt_some
set_option maxHeartbeats 8000000
set_option maxRecDepth 100000
theorem encode_one (b : UInt8) (hb : b.toNat < 128) : Utf8.encode (b.toNat : Int) = ⟨#[b]⟩ := by
  have hv : Utf8.valid (b.toNat : Int) = true := by rw [validRune_eq]; exact decide_eq_true (by omega)
  unfold Utf8.encode
  rw [if_pos hv, if_pos (by omega)]
  simp
theorem iter_out {a b : Nat} {W W' : World} (h : KeepB a b W W') {it p : Nat} {s : ByteArray} (hi : W.heap[it]? = some (.stringIter s p)) (h1 : a ≤ it) (h2 : it < b) : W'.heap[it]? = some (.stringIter s p) := (h.block it h1 h2).trans hi
theorem SyB.keep {W W' : World} {N M l : Nat} {h v t : List UInt8} (k : SyB W N l h v t) (hk : KeepB N M W W') (hM : N + 4 ≤ M) : SyB W' N l h v t :=
  ⟨hk.blk k.y (by omega) (by omega), hk.blk k.h (by omega) (by omega), hk.blk k.v (by omega) (by omega), hk.blk k.t (by omega) (by omega)⟩
theorem syl_nil (h v t : List UInt8) : syl [] h v t = [tlS true h v t] := rfl
theorem syl_v1 {c : UInt8} {r h t : List UInt8} (hc : vwB c.toNat = true) : syl (c :: r) h [] t = syl r h [c] t := by
  show (if vwB c.toNat then _ else _) = _; rw [if_pos hc]; rfl
theorem syl_v2 {c d : UInt8} {r h t : List UInt8} (hc : vwB c.toNat = true) : syl (c :: r) h [d] t = tlS false h [d] t :: syl r (tlN false h [d] t) [c] [] := by
  show (if vwB c.toNat then _ else _) = _; rw [if_pos hc]; rfl
theorem syl_c1 {c : UInt8} {r h t : List UInt8} (hc : vwB c.toNat = false) : syl (c :: r) h [] t = syl r (h ++ [c]) [] t := by
  show (if vwB c.toNat then _ else _) = _; rw [if_neg (by rw [hc]; exact Bool.false_ne_true)]; rfl
theorem syl_c2 {c d : UInt8} {r h t : List UInt8} (hc : vwB c.toNat = false) : syl (c :: r) h [d] t = syl r h [d] (t ++ [c]) := by
  show (if vwB c.toNat then _ else _) = _; rw [if_neg (by rw [hc]; exact Bool.false_ne_true)]; rfl
theorem drop_at {l : List UInt8} {k : Nat} (h : k < l.length) : l.drop k = l.getD k 0 :: l.drop (k + 1) := by
  rw [List.getD_eq_getElem?_getD, List.getElem?_eq_getElem h, List.drop_eq_getElem_cons h]; rfl
theorem tlN_len (last : Bool) (h v t : List UInt8) : (tlN last h v t).length ≤ 1 := by
  unfold tlN; split
  · rw [List.length_drop]; omega
  · simp
/-- where the iterator stands: k letters are behind it -/
structure SyW (W : World) (N M it l : Nat) (J : Nat → List Syl → World → Prop) (ls : List UInt8) (k : Nat) (pre : List Syl) (h v t : List UInt8) : Prop where
  b : SyB W N l h v t
  j : J M pre W
  i : W.heap[it]? = some (.stringIter ⟨ls.toArray⟩ k)
  m : M ≤ W.heap.size
structure SyP (ls : List UInt8) (k : Nat) (pre : List Syl) (h v t : List UInt8) : Prop where
  e : pre ++ syl (ls.drop k) h v t = syl ls [] [] []
  s : h.length + t.length ≤ k
  v1 : v = [] ∨ ∃ d, v = [d] ∧ d.toNat < 128
  v2 : v = [] → ((ls.drop k).any fun b => vwB b.toNat) = true
section
variable {W W' : World} {N M it l k : Nat} {J : Nat → List Syl → World → Prop} {ls : List UInt8} {pre : List Syl} {h v t : List UInt8}
theorem SyW.ext (k1 : SyW W N M it l J ls k pre h v t) (hJ : ∀ M s W1 W2, J M s W1 → OutK N M W1 W2 → J M s W2) (hb : Below W.heap.size W W') : SyW W' N M it l J ls k pre h v t :=
  ⟨k1.b.ext hb, hJ _ _ _ _ k1.j (OutK.of_below hb), (hb.block it (iter_lt k1.i)).trans k1.i, Nat.le_trans k1.m hb.size⟩
theorem SyW.next (k1 : SyW W N M it l J ls k pre h v t) (hJ : ∀ M s W1 W2, J M s W1 → OutK N M W1 W2 → J M s W2) (h1 : N + 4 ≤ it) (h2 : it < M) : SyW (W.iterAt it ⟨ls.toArray⟩ (k + 1)) N M it l J ls (k + 1) pre h v t := by
  have hb := Lib.below_iterAt (Below.refl it W) (Nat.le_refl it) ⟨ls.toArray⟩ (k + 1)
  have ho : OutK N M W (W.iterAt it ⟨ls.toArray⟩ (k + 1)) := ⟨rfl, rfl, rfl, by rw [Lib.iterAt_size]; exact Nat.le_refl _, fun j _ hn => Lib.iterAt_other W it j _ _ (fun e => hn (by omega))⟩
  exact ⟨⟨k1.b.y.below hb (by omega), k1.b.h.below hb (by omega), k1.b.v.below hb (by omega), k1.b.t.below hb (by omega)⟩, hJ _ _ _ _ k1.j ho, Lib.iterAt_heap W it _ k (k + 1) k1.i, by rw [Lib.iterAt_size]; exact k1.m⟩
theorem heap_set_ne {g j : Nat} (i : Nat) (x : Value) (h : j ≠ g) : (W.setCell ⟨g, i, none⟩ x).heap[j]? = W.heap[j]? := Below.heap_setCell _ _ _ j h
theorem SyW.setH (k1 : SyW W N M it l J ls k pre h v t) (hJ : ∀ M s W1 W2, J M s W1 → OutK N M W1 W2 → J M s W2) (h1 : N + 4 ≤ it) (h2 : it < M) (h' : List UInt8) : SyW (W.setCell ⟨N + 1, 0, none⟩ (.string ⟨h'.toArray⟩)) N M it l J ls k pre h' v t :=
  ⟨⟨k1.b.y.far (by dsimp only; omega) _, k1.b.h.set_ 0 _, k1.b.v.far (by dsimp only; omega) _, k1.b.t.far (by dsimp only; omega) _⟩, hJ _ _ _ _ k1.j (OutK.set W (by omega) (by omega) 0 _), (heap_set_ne 0 _ (by omega)).trans k1.i, by rw [size_set]; exact k1.m⟩
theorem SyW.setV (k1 : SyW W N M it l J ls k pre h v t) (hJ : ∀ M s W1 W2, J M s W1 → OutK N M W1 W2 → J M s W2) (h1 : N + 4 ≤ it) (h2 : it < M) (v' : List UInt8) : SyW (W.setCell ⟨N + 2, 0, none⟩ (.string ⟨v'.toArray⟩)) N M it l J ls k pre h v' t :=
  ⟨⟨k1.b.y.far (by dsimp only; omega) _, k1.b.h.far (by dsimp only; omega) _, k1.b.v.set_ 0 _, k1.b.t.far (by dsimp only; omega) _⟩, hJ _ _ _ _ k1.j (OutK.set W (by omega) (by omega) 0 _), (heap_set_ne 0 _ (by omega)).trans k1.i, by rw [size_set]; exact k1.m⟩
theorem SyW.setT (k1 : SyW W N M it l J ls k pre h v t) (hJ : ∀ M s W1 W2, J M s W1 → OutK N M W1 W2 → J M s W2) (h1 : N + 4 ≤ it) (h2 : it < M) (t' : List UInt8) : SyW (W.setCell ⟨N + 3, 0, none⟩ (.string ⟨t'.toArray⟩)) N M it l J ls k pre h v t' :=
  ⟨⟨k1.b.y.far (by dsimp only; omega) _, k1.b.h.far (by dsimp only; omega) _, k1.b.v.far (by dsimp only; omega) _, k1.b.t.set_ 0 _⟩, hJ _ _ _ _ k1.j (OutK.set W (by omega) (by omega) 0 _), (heap_set_ne 0 _ (by omega)).trans k1.i, by rw [size_set]; exact k1.m⟩
theorem SyP.a1 {b : UInt8} (p : SyP ls k pre h [] t) (hk : k < ls.length) (hb : ls.getD k 0 = b) (hv : vwB b.toNat = true) (h1 : b.toNat < 128) : SyP ls (k + 1) pre h [b] t := by
  have e := p.e
  rw [drop_at hk, hb, syl_v1 hv] at e
  exact ⟨e, by have := p.s; omega, .inr ⟨b, rfl, h1⟩, fun h => by cases h⟩
theorem SyP.a2 {b d : UInt8} (p : SyP ls k pre h [d] t) (hk : k < ls.length) (hb : ls.getD k 0 = b) (hv : vwB b.toNat = true) (h1 : b.toNat < 128) :
    SyP ls (k + 1) (pre ++ [tlS false h [d] t]) (tlN false h [d] t) [b] [] ∧ pre ++ [tlS false h [d] t] <+: syl ls [] [] [] := by
  have e := p.e
  rw [drop_at hk, hb, syl_v2 hv] at e
  have e2 : (pre ++ [tlS false h [d] t]) ++ syl (ls.drop (k + 1)) (tlN false h [d] t) [b] [] = syl ls [] [] [] := by rw [← e]; simp
  refine ⟨⟨e2, ?_, .inr ⟨b, rfl, h1⟩, fun h => by cases h⟩, ⟨_, e2⟩⟩
  have := tlN_len false h [d] t
  simp; omega
theorem SyP.b1 {b : UInt8} (p : SyP ls k pre h [] t) (hk : k < ls.length) (hb : ls.getD k 0 = b) (hv : vwB b.toNat = false) : SyP ls (k + 1) pre (h ++ [b]) [] t := by
  have e := p.e
  have h2 := p.v2 rfl
  rw [drop_at hk, hb] at e h2
  rw [syl_c1 hv] at e
  rw [List.any_cons, hv, Bool.false_or] at h2
  exact ⟨e, by have := p.s; simp; omega, .inl rfl, fun _ => h2⟩
theorem SyP.b2 {b d : UInt8} (p : SyP ls k pre h [d] t) (hk : k < ls.length) (hb : ls.getD k 0 = b) (hv : vwB b.toNat = false) : SyP ls (k + 1) pre h [d] (t ++ [b]) := by
  have e := p.e
  rw [drop_at hk, hb, syl_c2 hv] at e
  refine ⟨e, by have := p.s; simp; omega, ?_, fun h => by cases h⟩
  rcases p.v1 with h1 | h1
  · cases h1
  · exact .inr h1
theorem SyP.fin (p : SyP ls ls.length pre h v t) : ∃ d, v = [d] ∧ d.toNat < 128 ∧ pre ++ [tlS true h [d] t] = syl ls [] [] [] := by
  have e := p.e
  rw [List.drop_length] at e
  rcases p.v1 with rfl | ⟨d, rfl, hd⟩
  · have := p.v2 rfl
    rw [List.drop_length] at this
    cases this
  · exact ⟨d, rfl, hd, e⟩
end
theorem YieldAt.mono {F : Fence} {m : Nat} {P : Program} {l : Nat} {args : Array Value} {W : World} {R R' : Ending → World → Prop} (h : YieldAt F m P l args W R) (hr : ∀ e w, R e w → R' e w) : YieldAt F m P l args W R' := by
  obtain ⟨fn, tmps, assign, body, h1, h2⟩ := h
  exact ⟨fn, tmps, assign, body, h1, h2.mono hr⟩
theorem SyB.cells {W : World} {N l : Nat} {h v t : List UInt8} (k : SyB W N l h v t) : W.cell? ⟨N, 0, none⟩ = some (.func (.yield l) #[] #[]) ∧ W.cell? ⟨N + 1, 0, none⟩ = some (.string ⟨h.toArray⟩) ∧ W.cell? ⟨N + 2, 0, none⟩ = some (.string ⟨v.toArray⟩) ∧ W.cell? ⟨N + 3, 0, none⟩ = some (.string ⟨t.toArray⟩) :=
  ⟨(bx1 k.y).2, (bx1 k.h).2, (bx1 k.v).2, (bx1 k.t).2⟩
theorem ne_one (d : UInt8) : ¬ (⟨#[d]⟩ : ByteArray).toList = [] ∧ (⟨#[d]⟩ : ByteArray).toList.isEmpty = false := by
  rw [toList_data]
  exact ⟨(by simp), rfl⟩
theorem syl_in (F : Fence) (n : Nat) (hF : ∀ f, F.fn f) (hro : F.round = none) (hroom : ∀ j, F.room j) (hwd : ∀ {m f args w R}, Calls Tryd.prog f args w R → CallsIn F m Tryd.prog f args w R) (hn : 2 ≤ n)
    (l p : Nat) (s : ByteArray) (L : List UInt8) (hl : s.data.toList = L) (hs : s.size ≤ 800) (J : Nat → List Syl → World → Prop) (Jx : List Syl → World → Prop) (W : World)
    (hp : W.cell? ⟨p, 0, none⟩ = some (.string s)) (hasc : ∀ b ∈ ltr L, b.toNat < 128) (hvw : ((ltr L).any fun b => vwB b.toNat) = true) (hML : ML W)
    (h0 : ∀ W1, Below W.heap.size W W1 → J W1.heap.size [] W1)
    (hJ : ∀ M s W1 W2, J M s W1 → OutK W.heap.size M W1 W2 → J M s W2)
    (hY : ∀ M pre x W1, pre ++ [x] <+: sylL L → M ≤ W1.heap.size → J M pre W1 → YieldAt F (n - 1) Tryd.prog l (sylE x) W1 fun e W' =>
      (e = .returned (.bool true) ∧ J M (pre ++ [x]) W' ∧ KeepB W.heap.size M W1 W') ∨ (e = .returned (.bool false) ∧ Jx (pre ++ [x]) W')) :
    CallsIn F n Tryd.prog 98 #[.func (.yield l) #[] #[], .pointer (some ⟨p, 0, none⟩)] W fun e W' => (∃ v, e = .returned v) ∧ ((∃ M, J M (sylL L) W') ∨ ∃ pre, pre <+: sylL L ∧ Jx pre W') := by
  have hn1 : 1 ≤ n := by omega
  have HL := hide (fun W (h : ML W) => letters_any s L hl (by omega) W h)
  have HLE := hide (ltr_le L)
  have HSZ : Hid (L.length ≤ 800) := hide (by rw [size_len hl]; exact hs)
  unfold sylL at hY ⊢
  obtain ⟨ls, hls⟩ : ∃ ls, ltr L = ls := ⟨_, rfl⟩
  rw [hls] at hasc hvw hY HL HLE ⊢
  have HLL : Hid (ls.length ≤ 800) := hide (by have := HLE.out; have := HSZ.out; omega)
  have HASC := hide hasc
  have HVW := hide hvw
  have HM := hide hML
  have H0 := hide h0
  have HJ := hide hJ
  have HY := hide hY
  have hp1 := cell_lt hp
  clear hl hs hls hasc hvw hML h0 hJ hY HLE HSZ
  obtain ⟨N, hN⟩ : ∃ N, W.heap.size = N := ⟨_, rfl⟩
  rw [hN] at HJ HY
  have HN := hide hN
  refine callsIn_of_wp Tryd.func98 rfl (hF _) ?_ hro
  simp only [Tryd.ntmps98, List.size_toArray, List.length_cons, List.length_nil, Nat.reduceAdd, Nat.reduceSub, Array.replicate_succ, Array.replicate_zero, List.push_toArray, List.append_toArray, List.nil_append, List.cons_append]
  have hb4 : Below W.heap.size W ((((W.alloc (.cells #[.func (.yield l) #[] #[]] 155)).alloc (.cells #[.string ⟨#[]⟩] 9)).alloc (.cells #[.string ⟨#[]⟩] 9)).alloc (.cells #[.string ⟨#[]⟩] 9)) := ((((Below.refl _ _).alloc (Nat.le_refl _) _).alloc (by simp) _).alloc (by simp only [World.size_alloc]; omega) _).alloc (by simp only [World.size_alloc]; omega) _
  have hs4 : SyB ((((W.alloc (.cells #[.func (.yield l) #[] #[]] 155)).alloc (.cells #[.string ⟨#[]⟩] 9)).alloc (.cells #[.string ⟨#[]⟩] 9)).alloc (.cells #[.string ⟨#[]⟩] 9)) N l [] [] [] := by
    rw [← hN]
    exact ⟨(((Blk.new W _ _).alloc _).alloc _).alloc _, by simpa using ((Blk.new (W.alloc (.cells #[.func (.yield l) #[] #[]] 155)) 9 #[.string ⟨#[]⟩]).alloc (.cells #[.string ⟨#[]⟩] 9)).alloc (.cells #[.string ⟨#[]⟩] 9), by simpa using (Blk.new ((W.alloc (.cells #[.func (.yield l) #[] #[]] 155)).alloc (.cells #[.string ⟨#[]⟩] 9)) 9 #[.string ⟨#[]⟩]).alloc (.cells #[.string ⟨#[]⟩] 9), by simpa using Blk.new (((W.alloc (.cells #[.func (.yield l) #[] #[]] 155)).alloc (.cells #[.string ⟨#[]⟩] 9)).alloc (.cells #[.string ⟨#[]⟩] 9)) 9 #[.string ⟨#[]⟩]⟩
  have cp4 : ((((W.alloc (.cells #[.func (.yield l) #[] #[]] 155)).alloc (.cells #[.string ⟨#[]⟩] 9)).alloc (.cells #[.string ⟨#[]⟩] 9)).alloc (.cells #[.string ⟨#[]⟩] 9)).cell? ⟨p, 0, none⟩ = some (.string s) := (hb4.cell hp1).trans hp
  have hz4 : ((((W.alloc (.cells #[.func (.yield l) #[] #[]] 155)).alloc (.cells #[.string ⟨#[]⟩] 9)).alloc (.cells #[.string ⟨#[]⟩] 9)).alloc (.cells #[.string ⟨#[]⟩] 9)).heap.size = N + 4 := by simp only [World.size_alloc]; omega
  have HB4 := hide hb4
  have HS4 := hide hs4
  have HZ4 := hide hz4
  clear hb4 hs4 hz4 hp hp1
  gi_wp2_with fail
  (with_reducible refine (hwd (HL.out _ (HM.out.ext HB4.out))).mono ?_)
  rintro e w1 ⟨rfl, hb1⟩
  have hbi : Below ((((W.alloc (.cells #[.func (.yield l) #[] #[]] 155)).alloc (.cells #[.string ⟨#[]⟩] 9)).alloc (.cells #[.string ⟨#[]⟩] 9)).alloc (.cells #[.string ⟨#[]⟩] 9)).heap.size ((((W.alloc (.cells #[.func (.yield l) #[] #[]] 155)).alloc (.cells #[.string ⟨#[]⟩] 9)).alloc (.cells #[.string ⟨#[]⟩] 9)).alloc (.cells #[.string ⟨#[]⟩] 9)) (w1.iter ⟨ls.toArray⟩ 0) := hb1.alloc hb1.size _
  have hit := World.iter_heap w1 ⟨ls.toArray⟩ 0
  have hzi : (w1.iter ⟨ls.toArray⟩ 0).heap.size = w1.heap.size + 1 := by simp [World.iter]
  obtain ⟨it, hie⟩ : ∃ it, w1.heap.size = it := ⟨_, rfl⟩
  have HIT : Hid (N + 4 ≤ it) := hide (by rw [← hie, ← HZ4.out]; exact hb1.size)
  rw [hie] at hit hzi
  have HI0 : Hid (SyW (w1.iter ⟨ls.toArray⟩ 0) N (it + 1) it l J ls 0 [] [] [] []) := hide ⟨HS4.out.ext hbi, by rw [← hzi]; exact H0.out _ (HB4.out.trans (hbi.mono HB4.out.size)), hit, by rw [hzi]; exact Nat.le_refl _⟩
  have HP0 : Hid (SyP ls 0 [] [] [] []) := hide ⟨rfl, Nat.le_refl _, .inl rfl, fun _ => HVW.out⟩
  clear hbi hit hzi hb1
  gi_wp2_with fail
  clear hie hN HB4 HS4 HZ4 HL H0 HM
  generalize w1.iter ⟨ls.toArray⟩ 0 = wq at HI0 ⊢
  simp only [Nat.add_assoc, Nat.reduceAdd]
  have hmix : Tryd.prog.follows .mixedOrders = true := by kernel_rfl
  gi_loopw [8] (fun _ wr => ∃ (k : Nat) (pre : List Syl) (h v t : List UInt8), k ≤ ls.length ∧ Hid (SyW wr N (it + 1) it l J ls k pre h v t) ∧ Hid (SyP ls k pre h v t)) (fun _ wr => ls.length - itP it wr)
  case atStart => exact ⟨0, [], [], [], [], Nat.zero_le _, HI0, HP0⟩
  case round =>
    obtain ⟨k, pre, h, v, t, hk, HI, HP⟩ := hrel
    clear HI0 HP0
    have hmea := itP_of HI.out.i
    have HMEA := hide hmea
    clear hmea
    by_cases hlt : k < ls.length
    · obtain ⟨b, hb⟩ : ∃ b, ls.getD k 0 = b := ⟨_, rfl⟩
      have hb128 : b.toNat < 128 := by rw [← hb]; exact HASC.out _ (getD_mem hlt)
      have hls : (⟨ls.toArray⟩ : ByteArray).size = ls.length := sizeA ls
      have hsb : (⟨ls.toArray⟩ : ByteArray)[k]'(by rw [hls]; exact hlt) = b := by rw [byte_at (l := ls) (by simp) (by rw [hls]; exact hlt), hb]
      have hnx := fun ty => Lib.run_next_ascii_at (P := Tryd.prog) wr it ⟨ls.toArray⟩ k ty HI.out.i (by rw [hls]; exact hlt) (by rw [hsb]; exact hb128)
      rw [hsb] at hnx
      have HI1 := hide (HI.out.next HJ.out HIT.out (Nat.lt_succ_self it))
      generalize wr.iterAt it ⟨ls.toArray⟩ (k + 1) = wx at hnx HI1
      have HVC := hide (fun W => is_vw b.toNat W (by omega))
      have henc := encode_one b hb128
      have HB := hide hb
      clear hb hls hsb HI
      rcases hvw : vwB b.toNat with _ | _
      · rw [hvw] at HVC
        have HVW2 := hide hvw
        clear hvw
        gi_wp2_with fail
        (with_reducible refine (hwd (HVC.out _)).mono ?_)
        rintro e w4 ⟨rfl, hb4⟩
        have HI4 := hide (HI1.out.ext HJ.out (((Below.refl wx.heap.size wx).alloc (Nat.le_refl _) _).trans (hb4.mono (by simp))))
        clear hb4 HI1 hnx
        have hhl := HP.out.s
        have hll := HLL.out
        have hw := HP.out.v1
        rcases hw with rfl | ⟨d, rfl, hd⟩
        · have ha : ∀ w, (Op.stringOp .add (⟨h.toArray⟩ : ByteArray) ⟨#[b]⟩).run Tryd.prog w = .ok (.string ⟨(h ++ [b]).toArray⟩) w := fun w => run_string_add_lists (P := Tryd.prog) w h [b] (by omega) (by simp)
          have HP5 := hide (HP.out.b1 hlt HB.out HVW2.out)
          have HI5 := hide (HI4.out.setH HJ.out HIT.out (Nat.lt_succ_self it) (h ++ [b]))
          obtain ⟨cy, ch, cv, ct⟩ := SyB.cells HI4.out.b
          have fh := HI4.out.b.h.frozen 0
          have fv := HI4.out.b.v.frozen 0
          have ft := HI4.out.b.t.frozen 0
          have z4 := HI4.out.b.t.lt
          clear hhl hll HP
          (try dsimp only)
          (repeat (first | go_values | gi_guarded | gi_step | gi_upon))
          go_roundw
          case rel => exact ⟨k + 1, _, _, _, _, by omega, HI5, HP5⟩
          case measure => rw [itP_of HI5.out.i, HMEA.out]; omega
        · have ha : ∀ w, (Op.stringOp .add (⟨t.toArray⟩ : ByteArray) ⟨#[b]⟩).run Tryd.prog w = .ok (.string ⟨(t ++ [b]).toArray⟩) w := fun w => run_string_add_lists (P := Tryd.prog) w t [b] (by omega) (by simp)
          have HP5 := hide (HP.out.b2 hlt HB.out HVW2.out)
          have HI5 := hide (HI4.out.setT HJ.out HIT.out (Nat.lt_succ_self it) (t ++ [b]))
          obtain ⟨n1, n2⟩ := ne_one d
          obtain ⟨cy, ch, cv, ct⟩ := SyB.cells HI4.out.b
          have fh := HI4.out.b.h.frozen 0
          have fv := HI4.out.b.v.frozen 0
          have ft := HI4.out.b.t.frozen 0
          have z4 := HI4.out.b.t.lt
          clear hhl hll HP
          (try dsimp only)
          (repeat (first | go_values | gi_guarded | gi_step | gi_upon))
          go_roundw
          case rel => exact ⟨k + 1, _, _, _, _, by omega, HI5, HP5⟩
          case measure => rw [itP_of HI5.out.i, HMEA.out]; omega
      · rw [hvw] at HVC
        have HVW2 := hide hvw
        clear hvw
        gi_wp2_with fail
        (with_reducible refine (hwd (HVC.out _)).mono ?_)
        rintro e w4 ⟨rfl, hb4⟩
        have HI4 := hide (HI1.out.ext HJ.out (((Below.refl wx.heap.size wx).alloc (Nat.le_refl _) _).trans (hb4.mono (by simp))))
        clear hb4 HI1 hnx
        have hhl := HP.out.s
        have hll := HLL.out
        have hw := HP.out.v1
        rcases hw with rfl | ⟨d, rfl, hd⟩
        · have HP5 := hide (HP.out.a1 hlt HB.out HVW2.out hb128)
          have HI5 := hide (HI4.out.setV HJ.out HIT.out (Nat.lt_succ_self it) [b])
          obtain ⟨cy, ch, cv, ct⟩ := SyB.cells HI4.out.b
          have fh := HI4.out.b.h.frozen 0
          have fv := HI4.out.b.v.frozen 0
          have ft := HI4.out.b.t.frozen 0
          have z4 := HI4.out.b.t.lt
          clear hhl hll HP
          (try dsimp only)
          (repeat (first | go_values | gi_guarded | gi_step | gi_upon))
          go_roundw
          case rel => exact ⟨k + 1, _, _, _, _, by omega, HI5, HP5⟩
          case measure => rw [itP_of HI5.out.i, HMEA.out]; omega
        · obtain ⟨hp5, hpre⟩ := HP.out.a2 hlt HB.out HVW2.out hb128
          have HP5 := hide hp5
          have HTE : Hid (CallsIn F (n - 1) Tryd.prog 99 #[.bool false, .pointer (some ⟨N + 3, 0, none⟩), .pointer (some ⟨N + 1, 0, none⟩), .pointer (some ⟨N + 2, 0, none⟩), .pointer (some ⟨N, 0, none⟩)] w4 fun e W' =>
              (e = .returned (.bool true) ∧ SyW W' N (it + 1) it l J ls (k + 1) (pre ++ [tlS false h [d] t]) (tlN false h [d] t) [] []) ∨ (e = .returned (.bool false) ∧ Jx (pre ++ [tlS false h [d] t]) W')) := hide (by
            have hm4 := HI4.out.m
            have hit4 := HIT.out
            refine tell_in F (n - 1) hF hro hroom hwd (by omega) l N (N + 4) false h t d w4 _ (by rintro e w (⟨rfl, -⟩ | ⟨rfl, -⟩) <;> exact ⟨_, rfl⟩) HI4.out.b hd (by omega) (Nat.le_refl _) (by omega) (fun W1 ho hs => ?_)
            have hi1 := (ho.block it (iter_lt HI4.out.i) (by omega)).trans HI4.out.i
            have hm1 : it + 1 ≤ W1.heap.size := Nat.le_trans hm4 ho.size
            have hj1 := HJ.out _ _ _ _ HI4.out.j (ho.more (Nat.le_refl _) (by omega))
            refine YieldAt.mono (YieldAt.any hroom (HY.out (it + 1) pre _ W1 hpre hm1 hj1)) ?_
            rintro e W' (⟨rfl, h1, h2⟩ | ⟨rfl, h1⟩)
            · exact .inl ⟨rfl, hs.keep h2 (by omega), h1, iter_out h2 hi1 (by omega) (by omega), Nat.le_trans hm1 h2.size⟩
            · exact .inr ⟨rfl, h1⟩)
          obtain ⟨n1, n2⟩ := ne_one d
          obtain ⟨cy, ch, cv, ct⟩ := SyB.cells HI4.out.b
          have fh := HI4.out.b.h.frozen 0
          have fv := HI4.out.b.v.frozen 0
          have ft := HI4.out.b.t.frozen 0
          have z4 := HI4.out.b.t.lt
          clear hhl hll HP hp5
          have HPRE := hide hpre
          clear hpre
          (try dsimp only)
          (repeat (first | go_values | gi_guarded | gi_step | gi_upon))
          refine HTE.out.mono ?_
          rintro e w5 (⟨rfl, hw5⟩ | ⟨rfl, hx5⟩)
          · have HI5 := hide hw5
            have HI6 := hide (hw5.setV HJ.out HIT.out (Nat.lt_succ_self it) [b])
            clear hw5 cy ch cv ct fh fv ft z4 HI4 HTE
            obtain ⟨cy, ch, cv, ct⟩ := SyB.cells HI5.out.b
            have fh := HI5.out.b.h.frozen 0
            have fv := HI5.out.b.v.frozen 0
            have ft := HI5.out.b.t.frozen 0
            have z4 := HI5.out.b.t.lt
            (try dsimp only)
            (repeat (first | go_values | gi_guarded | gi_step | gi_upon))
            go_roundw
            case rel => exact ⟨k + 1, _, _, _, _, by omega, HI6, HP5⟩
            case measure => rw [itP_of HI6.out.i, HMEA.out]; omega
          · have HX := hide hx5
            clear hx5 cy ch cv ct fh fv ft z4 HI4 HTE
            (try dsimp only)
            (repeat (first | go_values | gi_guarded | gi_step | gi_upon))
            refine bodyPost_ret (results_none rfl _ _ _) rfl ?_
            exact ⟨⟨_, rfl⟩, .inr ⟨_, HPRE.out, HX.out⟩⟩
    · obtain rfl : k = ls.length := by omega
      have hls : (⟨ls.toArray⟩ : ByteArray).size = ls.length := sizeA ls
      have hnx := fun ty => Lib.run_next_end_at (P := Tryd.prog) wr it ⟨ls.toArray⟩ ls.length ty HI.out.i (by rw [hls]; omega)
      obtain ⟨d, rfl, hd, hfin⟩ := HP.out.fin
      have hhl := HP.out.s
      have hll := HLL.out
      have HFIN := hide hfin
      have HTE : Hid (CallsIn F (n - 1) Tryd.prog 99 #[.bool true, .pointer (some ⟨N + 3, 0, none⟩), .pointer (some ⟨N + 1, 0, none⟩), .pointer (some ⟨N + 2, 0, none⟩), .pointer (some ⟨N, 0, none⟩)] wr fun e W' =>
          (∃ b, e = .returned (.bool b)) ∧ ((∃ M, J M (syl ls [] [] []) W') ∨ ∃ pre, pre <+: syl ls [] [] [] ∧ Jx pre W')) := hide (by
        have hm4 := HI.out.m
        have hit4 := HIT.out
        refine tell_in F (n - 1) hF hro hroom hwd (by omega) l N (N + 4) true h t d wr _ (by rintro e w ⟨⟨b, rfl⟩, -⟩; exact ⟨b, rfl⟩) HI.out.b hd (by omega) (Nat.le_refl _) (by omega) (fun W1 ho hs => ?_)
        have hm1 : it + 1 ≤ W1.heap.size := Nat.le_trans hm4 ho.size
        have hj1 := HJ.out _ _ _ _ HI.out.j (ho.more (Nat.le_refl _) (by omega))
        refine YieldAt.mono (YieldAt.any hroom (HY.out (it + 1) pre _ W1 ⟨[], by rw [hfin, List.append_nil]⟩ hm1 hj1)) ?_
        rintro e W' (⟨rfl, h1, h2⟩ | ⟨rfl, h1⟩)
        · exact ⟨⟨_, rfl⟩, .inl ⟨_, by rw [← hfin]; exact h1⟩⟩
        · exact ⟨⟨_, rfl⟩, .inr ⟨_, ⟨[], by rw [hfin, List.append_nil]⟩, h1⟩⟩)
      clear hhl hll HP hfin HFIN
      (try dsimp only)
      (repeat (first | go_values | gi_guarded | gi_step | gi_upon))
      refine HTE.out.mono ?_
      rintro e w5 ⟨⟨b, rfl⟩, hr⟩
      have HR := hide hr
      clear hr
      (try dsimp only)
      (repeat (first | go_values | gi_guarded | gi_step | gi_upon))
      go_end0
      exact ⟨⟨_, rfl⟩, HR.out⟩
end Go.Proofs.YtlkkkgpcjdemdaaDoor
/- Song: the iterator over what may stand next, walked. -/
namespace Go.Proofs.YtlkkkgpcjdemdaaDoor
open Go Go.RowKit Go.Shelf
attribute [local go_sem] Oper.semAt_some
set_option maxHeartbeats 8000000
set_option maxRecDepth 100000
theorem wpIn_on {F : Fence} {n : Nat} {P : Program} {c : Code} {Q : Exit → Act → World → Prop} {a : Act} {w : World} (h : c.wpIn F n P (OnlyNormal fun a' w' => Q .normal a' w') a w) : c.wpIn F n P Q a w :=
  wpIn_cut (fun _ a' w' => Q .normal a' w') h (fun _ _ h => h)
/-- what may stand next: the syllable's weight, and what is left behind it; k of the two looked at -/
def nxW (c : UInt8) (left : Int) : Nat → List (UInt8 × Int)
  | 0 => []
  | 1 => if okW c 103 left 2 then [(103, lfW left 2)] else []
  | _ => (if okW c 103 left 2 then [(103, lfW left 2)] else []) ++ (if okW c 108 left 1 then [(108, lfW left 1)] else [])
def nxE (i : Nat) (x : UInt8 × Int) : Array Value := #[.int .u8 (x.1.toNat : Int), .agg #[.int .i64 ((i : Int) + 1), .int .i64 x.2]]
/-- what the iterator reads -/
structure NxZ (pa pf fb i : Nat) (left : Int) (s : ByteArray) (W : World) : Prop where
  i : W.cell? ⟨pa, 0, none⟩ = some (.int .i64 (i : Nat))
  l : W.cell? ⟨pa, 1, none⟩ = some (.int .i64 left)
  f : W.cell? ⟨pf, 0, none⟩ = some (.pointer (some ⟨fb, 0, none⟩))
  s : W.cell? ⟨fb, 0, none⟩ = some (.string s)
structure NxW (W : World) (N M : Nat) (J : Nat → List (UInt8 × Int) → World → Prop) (pre : List (UInt8 × Int)) : Prop where
  j : J M pre W
  b : W.heap[N]? = some (.cells #[.int .u8 103, .int .u8 108] 5 (2, 3))
  m : M ≤ W.heap.size
  n : N < M
theorem NxW.ext {W W' : World} {N M : Nat} {J : Nat → List (UInt8 × Int) → World → Prop} {pre : List (UInt8 × Int)} (h : NxW W N M J pre) (hJ : ∀ M s W1 W2, J M s W1 → OutK N M W1 W2 → J M s W2) (hb : Below W.heap.size W W') : NxW W' N M J pre :=
  ⟨hJ _ _ _ _ h.j (OutK.of_below hb), (hb.block N (by have := h.m; have := h.n; omega)).trans h.b, Nat.le_trans h.m hb.size, h.n⟩
theorem u8_eq {c : UInt8} {w : UInt8} (h : (c.toNat : Int) = (w.toNat : Int)) : c = w := UInt8.toNat_inj.1 (by omega)
theorem okW_yes {c w : UInt8} {left d : Int} (h : c = 120 ∨ c = w) (h2 : left < 0 ∨ d ≤ left) : okW c w left d = true := by
  unfold okW; rcases h with rfl | rfl <;> rcases h2 with h2 | h2 <;> simp [h2]
theorem okW_no1 {c w : UInt8} {left d : Int} (h1 : c ≠ 120) (h2 : c ≠ w) : okW c w left d = false := by
  unfold okW; simp [h1, h2]
theorem okW_no2 {c w : UInt8} {left d : Int} (h1 : 0 ≤ left) (h2 : left < d) : okW c w left d = false := by
  unfold okW; simp; intro _; omega
theorem nx_no0 {c : UInt8} {left : Int} (h : okW c 103 left 2 = false) : nxW c left (0 + 1) = nxW c left 0 := by simp [nxW, h]
theorem nx_no1 {c : UInt8} {left : Int} (h : okW c 108 left 1 = false) : nxW c left (1 + 1) = nxW c left 1 := by simp [nxW, h]
theorem nx_yes0 {c : UInt8} {left : Int} (h : okW c 103 left 2 = true) : nxW c left (0 + 1) = nxW c left 0 ++ [(103, lfW left 2)] := by simp [nxW, h]
theorem nx_yes1 {c : UInt8} {left : Int} (h : okW c 108 left 1 = true) : nxW c left (1 + 1) = nxW c left 1 ++ [(108, lfW left 1)] := by simp [nxW, h]
theorem nx_pre0 {c : UInt8} {left : Int} (h : okW c 103 left 2 = true) : nxW c left 0 ++ [(103, lfW left 2)] <+: nxW c left 2 := by simp [nxW, h]
theorem nx_pre1 {c : UInt8} {left : Int} (h : okW c 108 left 1 = true) : nxW c left 1 ++ [(108, lfW left 1)] <+: nxW c left 2 := by simp [nxW, h]
theorem nx_in (F : Fence) (n : Nat) (hF : ∀ f, F.fn f) (hro : F.round = none) (hroom : ∀ j, F.room j) (hn : 2 ≤ n)
    (pa pf fb i : Nat) (left : Int) (s : ByteArray) (c : UInt8) (hi : i < s.size) (hs : s.size ≤ 60) (hc : s[i]'hi = c) (hl : LfOk left)
    (l : Nat) (J : Nat → List (UInt8 × Int) → World → Prop) (Jx : List (UInt8 × Int) → World → Prop) (W : World)
    (hZ : ∀ M s1 W1, J M s1 W1 → NxZ pa pf fb i left s W1)
    (h0 : ∀ W1, Below W.heap.size W W1 → J W1.heap.size [] W1)
    (hJ : ∀ M s W1 W2, J M s W1 → OutK W.heap.size M W1 W2 → J M s W2)
    (hY : ∀ M pre x W1, pre ++ [x] <+: nxW c left 2 → M ≤ W1.heap.size → J M pre W1 → YieldAt F (n - 1) Tryd.prog l (nxE i x) W1 fun e W' =>
      (e = .returned (.bool true) ∧ J M (pre ++ [x]) W' ∧ KeepB W.heap.size M W1 W') ∨ (e = .returned (.bool false) ∧ Jx (pre ++ [x]) W')) :
    CallsIn F n Tryd.prog 106 #[.func (.yield l) #[] #[], .pointer (some ⟨pa, 0, none⟩), .pointer (some ⟨pf, 0, none⟩)] W fun e W' => (∃ v, e = .returned v) ∧ ((∃ M, J M (nxW c left 2) W') ∨ ∃ pre, pre <+: nxW c left 2 ∧ Jx pre W') := by
  have hn1 : 1 ≤ n := by omega
  have HZ := hide hZ
  have H0 := hide h0
  have HJ := hide hJ
  have HY := hide hY
  have HL := hide hl
  have HC := hide hc
  clear hZ h0 hJ hY hl hc
  obtain ⟨N, hN⟩ : ∃ N, W.heap.size = N := ⟨_, rfl⟩
  have HN := hide hN
  rw [hN] at HJ HY
  refine callsIn_of_wp Tryd.func106 rfl (hF _) ?_ hro
  simp only [Tryd.ntmps106, List.size_toArray, List.length_cons, List.length_nil, Nat.reduceAdd, Nat.reduceSub, Array.replicate_succ, Array.replicate_zero, List.push_toArray, List.append_toArray, List.nil_append, List.cons_append]
  have HI0 : Hid (NxW (W.alloc (.cells #[.int .u8 103, .int .u8 108] 5 (2, 3))) N (N + 1) J []) := hide ⟨by
    have := H0.out (W.alloc (.cells #[.int .u8 103, .int .u8 108] 5 (2, 3))) ((Below.refl _ _).alloc (Nat.le_refl _) _)
    rwa [World.size_alloc, hN] at this, by rw [← hN]; exact World.alloc_heap_new W _, by rw [World.size_alloc, hN]; exact Nat.le_refl _, by omega⟩
  have kc := Lib.run_convert_bytes_const (P := Tryd.prog) W 113 5 #[.int .u8 103, .int .u8 108] 2 2 Tryd.underlying113 Tryd.underlying5
  rw [hN] at kc
  (try dsimp only)
  (repeat (first | go_values | gi_guarded | gi_step | gi_upon))
  clear kc hN H0 HN
  generalize W.alloc (.cells #[.int .u8 103, .int .u8 108] 5 (2, 3)) = wq at HI0 ⊢
  gi_loopw [11] (fun iv wr => ∃ (k : Nat), k ≤ 2 ∧ iv = .int .i64 (k : Nat) ∧ Hid (NxW wr N (N + 1) J (nxW c left k))) (fun iv _ => 2 - (intOf iv).toNat)
  case atStart => exact ⟨0, Nat.zero_le _, rfl, HI0⟩
  case round =>
    obtain ⟨k, hk, rfl, HI⟩ := hrel
    clear HI0
    by_cases hlt : k < 2
    · have h01 : k = 0 ∨ k = 1 := by omega
      rcases h01 with rfl | rfl
      · have cb : wr.cell? ⟨N, 0, none⟩ = some (.int .u8 103) := by unfold World.cell?; rw [HI.out.b]; rfl
        obtain ⟨ci, cl, cf, cs⟩ := HZ.out _ _ _ HI.out.j
        have z1 := cell_lt ci
        have z2 := cell_lt cf
        have z3 := cell_lt cs
        dsimp only at z1 z2 z3
        have hl := HL.out
        unfold LfOk at hl
        have hw1 : IntKind.i64.wrap ((i : Int) + 1) = (i : Int) + 1 := IntWalk.i64_in _ (by omega)
        have hw2 : IntKind.i64.wrap (left - 2) = left - 2 := IntWalk.i64_in _ (by omega)
        by_cases hlf : 0 ≤ left
        · (try dsimp only)
          (repeat (first | go_values | gi_guarded | gi_step | gi_upon))
          refine wpIn_on ?_
          refine wpIn_region_J (fun W : World => W.cell? ⟨pa, 0, none⟩ = some (.int .i64 (i : Nat)) ∧ W.cell? ⟨pf, 0, none⟩ = some (.pointer (some ⟨fb, 0, none⟩)) ∧ W.cell? ⟨fb, 0, none⟩ = some (.string s)) (by kernel_rfl) ?_
          have kp := Blk.new wr 127 #[.int .i64 ((i : Int) + 1), .int .i64 (left - 2)]
          have hb1 : Below wr.heap.size wr (wr.alloc (.cells #[.int .i64 ((i : Int) + 1), .int .i64 (left - 2)] 127)) := (Below.refl _ _).alloc (Nat.le_refl _) _
          have hb2 := (Below.refl (wr.alloc (.cells #[.int .i64 ((i : Int) + 1), .int .i64 (left - 2)] 127)).heap.size (wr.alloc (.cells #[.int .i64 ((i : Int) + 1), .int .i64 (left - 2)] 127))).drew
          have HI1 := hide ((HI.out.ext HJ.out hb1).ext HJ.out hb2)
          have KP := hide (kp.ext hb2)
          clear kp hb1 hb2 ci cl cf cs cb HI
          obtain ⟨g, hg⟩ : ∃ g, wr.heap.size = g := ⟨_, rfl⟩
          rw [hg] at KP z1 z2 z3 ⊢
          clear hg
          generalize (wr.alloc (.cells #[.int .i64 ((i : Int) + 1), .int .i64 (left - 2)] 127)).drew = w1 at HI1 KP ⊢
          obtain ⟨ci, cl, cf, cs⟩ := HZ.out _ _ _ HI1.out.j
          refine tk_start [0, 1, 2, 3, 4, 5, 6, 7, 8] ?_
          iterate 9
            refine tk_one (v := ?_) (by first | exact hF | exact wideFn) ⟨ci, cf, cs⟩ rfl (by kernel_rfl) (by kernel_rfl) (by kernel_rfl) (by kernel_rfl) rfl ?_ (by first | exact fun _ _ _ h => h | exact fun _ _ _ h => hQ2 _ _ _ _ _ h) ?_
            rotate_left
            · intro W hSW
              simp only [List.getElem_toArray, List.getElem_cons_zero, List.getElem_cons_succ]
              (try dsimp only at hSW)
              go_simp
              with_reducible rfl
            (try simp only [List.getElem_toArray, List.getElem_cons_zero, List.getElem_cons_succ, Act.put, List.setIfInBounds_toArray, List.set_cons_zero, List.set_cons_succ])
          refine tk_end ?_
          refine wpAnyJ_done (by kernel_rfl) ?_
          dsimp only [OnlyNormal]
          rw [HC.out]
          have hnf := KP.out.frozen 0
          obtain ⟨e1, e2, e3⟩ := bx2 KP.out
          by_cases h120 : (c.toNat : Int) = 120
          · by_cases hd : left < 2
            · have hd1 : (left - 2 : Int) < 0 := by omega
              have hok : okW c 103 left 2 = false := okW_no2 hlf hd
              have HN1 : Hid (nxW c left (0 + 1) = nxW c left 0) := hide (nx_no0 hok)
              clear hok
              (try dsimp only)
              (repeat (first | go_values | gi_guarded | gi_step | gi_upon))
              go_roundw
              case rel => exact ⟨0 + 1, by omega, rfl, by rw [HN1.out]; exact HI1⟩
              case measure => simp [intOf]
            · have hd1 : ¬ (left - 2 : Int) < 0 := by omega
              have hok : okW c 103 left 2 = true := okW_yes (.inl (u8_eq (w := 120) h120)) (.inr (by omega))
              have HN1 := hide (nx_yes0 hok)
              have HPRE := hide (nx_pre0 hok)
              clear hok
              have hlw : lfW left 2 = left - 2 := if_pos hlf
              rw [hlw] at HN1 HPRE
              clear hlw
              have HY1 := hide (HY.out _ _ _ _ HPRE.out HI1.out.m HI1.out.j)
              have hyy : YieldAt F (n - 1) Tryd.prog l #[.int .u8 103, .agg #[.int .i64 ((i : Int) + 1), .int .i64 (left - 2)]] w1 _ := HY1.out
              obtain ⟨fn, tmps, assign, body, hy, hR⟩ := hyy
              have HR := hide hR
              clear hR
              (try dsimp only)
              (repeat (first | go_values | gi_guarded | gi_step | gi_upon))
              refine HR.out.mono ?_
              rintro e W' (⟨rfl, h1, h2⟩ | ⟨rfl, h1⟩)
              · have HI2 : Hid (NxW W' N (N + 1) J (nxW c left (0 + 1))) := hide ⟨by rw [HN1.out]; exact h1, (h2.block N (Nat.le_refl _) (by omega)).trans HI1.out.b, Nat.le_trans HI1.out.m h2.size, by omega⟩
                clear h1 h2 HY1 HR hy
                (try dsimp only)
                (repeat (first | go_values | gi_guarded | gi_step | gi_upon))
                go_roundw
                case rel => exact ⟨0 + 1, by omega, rfl, HI2⟩
                case measure => simp [intOf]
              · have HX := hide h1
                clear h1 HY1 HR hy
                (try dsimp only)
                (repeat (first | go_values | gi_guarded | gi_step | gi_upon))
                refine bodyPost_ret (results_none rfl _ _ _) rfl ?_
                exact ⟨⟨_, rfl⟩, .inr ⟨_, HPRE.out, HX.out⟩⟩
          · by_cases hcw : (c.toNat : Int) = 103
            · by_cases hd : left < 2
              · have hd1 : (left - 2 : Int) < 0 := by omega
                have hok : okW c 103 left 2 = false := okW_no2 hlf hd
                have HN1 : Hid (nxW c left (0 + 1) = nxW c left 0) := hide (nx_no0 hok)
                clear hok
                (try dsimp only)
                (repeat (first | go_values | gi_guarded | gi_step | gi_upon))
                go_roundw
                case rel => exact ⟨0 + 1, by omega, rfl, by rw [HN1.out]; exact HI1⟩
                case measure => simp [intOf]
              · have hd1 : ¬ (left - 2 : Int) < 0 := by omega
                have hok : okW c 103 left 2 = true := okW_yes (.inr (u8_eq (w := 103) hcw)) (.inr (by omega))
                have HN1 := hide (nx_yes0 hok)
                have HPRE := hide (nx_pre0 hok)
                clear hok
                have hlw : lfW left 2 = left - 2 := if_pos hlf
                rw [hlw] at HN1 HPRE
                clear hlw
                have HY1 := hide (HY.out _ _ _ _ HPRE.out HI1.out.m HI1.out.j)
                have hyy : YieldAt F (n - 1) Tryd.prog l #[.int .u8 103, .agg #[.int .i64 ((i : Int) + 1), .int .i64 (left - 2)]] w1 _ := HY1.out
                obtain ⟨fn, tmps, assign, body, hy, hR⟩ := hyy
                have HR := hide hR
                clear hR
                (try dsimp only)
                (repeat (first | go_values | gi_guarded | gi_step | gi_upon))
                refine HR.out.mono ?_
                rintro e W' (⟨rfl, h1, h2⟩ | ⟨rfl, h1⟩)
                · have HI2 : Hid (NxW W' N (N + 1) J (nxW c left (0 + 1))) := hide ⟨by rw [HN1.out]; exact h1, (h2.block N (Nat.le_refl _) (by omega)).trans HI1.out.b, Nat.le_trans HI1.out.m h2.size, by omega⟩
                  clear h1 h2 HY1 HR hy
                  (try dsimp only)
                  (repeat (first | go_values | gi_guarded | gi_step | gi_upon))
                  go_roundw
                  case rel => exact ⟨0 + 1, by omega, rfl, HI2⟩
                  case measure => simp [intOf]
                · have HX := hide h1
                  clear h1 HY1 HR hy
                  (try dsimp only)
                  (repeat (first | go_values | gi_guarded | gi_step | gi_upon))
                  refine bodyPost_ret (results_none rfl _ _ _) rfl ?_
                  exact ⟨⟨_, rfl⟩, .inr ⟨_, HPRE.out, HX.out⟩⟩
            · have hok : okW c 103 left 2 = false := okW_no1 (fun e => by subst e; exact h120 rfl) (fun e => by subst e; exact hcw rfl)
              have HN1 : Hid (nxW c left (0 + 1) = nxW c left 0) := hide (nx_no0 hok)
              clear hok
              (try dsimp only)
              (repeat (first | go_values | gi_guarded | gi_step | gi_upon))
              go_roundw
              case rel => exact ⟨0 + 1, by omega, rfl, by rw [HN1.out]; exact HI1⟩
              case measure => simp [intOf]
        · (try dsimp only)
          (repeat (first | go_values | gi_guarded | gi_step | gi_upon))
          refine wpIn_on ?_
          refine wpIn_region_J (fun W : World => W.cell? ⟨pa, 0, none⟩ = some (.int .i64 (i : Nat)) ∧ W.cell? ⟨pf, 0, none⟩ = some (.pointer (some ⟨fb, 0, none⟩)) ∧ W.cell? ⟨fb, 0, none⟩ = some (.string s)) (by kernel_rfl) ?_
          have kp := Blk.new wr 127 #[.int .i64 ((i : Int) + 1), .int .i64 (left)]
          have hb1 : Below wr.heap.size wr (wr.alloc (.cells #[.int .i64 ((i : Int) + 1), .int .i64 (left)] 127)) := (Below.refl _ _).alloc (Nat.le_refl _) _
          have hb2 := (Below.refl (wr.alloc (.cells #[.int .i64 ((i : Int) + 1), .int .i64 (left)] 127)).heap.size (wr.alloc (.cells #[.int .i64 ((i : Int) + 1), .int .i64 (left)] 127))).drew
          have HI1 := hide ((HI.out.ext HJ.out hb1).ext HJ.out hb2)
          have KP := hide (kp.ext hb2)
          clear kp hb1 hb2 ci cl cf cs cb HI
          obtain ⟨g, hg⟩ : ∃ g, wr.heap.size = g := ⟨_, rfl⟩
          rw [hg] at KP z1 z2 z3 ⊢
          clear hg
          generalize (wr.alloc (.cells #[.int .i64 ((i : Int) + 1), .int .i64 (left)] 127)).drew = w1 at HI1 KP ⊢
          obtain ⟨ci, cl, cf, cs⟩ := HZ.out _ _ _ HI1.out.j
          refine tk_start [0, 1, 2, 3, 4, 5, 6, 7, 8] ?_
          iterate 9
            refine tk_one (v := ?_) (by first | exact hF | exact wideFn) ⟨ci, cf, cs⟩ rfl (by kernel_rfl) (by kernel_rfl) (by kernel_rfl) (by kernel_rfl) rfl ?_ (by first | exact fun _ _ _ h => h | exact fun _ _ _ h => hQ2 _ _ _ _ _ h) ?_
            rotate_left
            · intro W hSW
              simp only [List.getElem_toArray, List.getElem_cons_zero, List.getElem_cons_succ]
              (try dsimp only at hSW)
              go_simp
              with_reducible rfl
            (try simp only [List.getElem_toArray, List.getElem_cons_zero, List.getElem_cons_succ, Act.put, List.setIfInBounds_toArray, List.set_cons_zero, List.set_cons_succ])
          refine tk_end ?_
          refine wpAnyJ_done (by kernel_rfl) ?_
          dsimp only [OnlyNormal]
          rw [HC.out]
          have hnf := KP.out.frozen 0
          obtain ⟨e1, e2, e3⟩ := bx2 KP.out
          by_cases h120 : (c.toNat : Int) = 120
          · have hok : okW c 103 left 2 = true := okW_yes (.inl (u8_eq (w := 120) h120)) (.inl (by omega))
            have HN1 := hide (nx_yes0 hok)
            have HPRE := hide (nx_pre0 hok)
            clear hok
            have hlw : lfW left 2 = left := if_neg hlf
            rw [hlw] at HN1 HPRE
            clear hlw
            have HY1 := hide (HY.out _ _ _ _ HPRE.out HI1.out.m HI1.out.j)
            have hyy : YieldAt F (n - 1) Tryd.prog l #[.int .u8 103, .agg #[.int .i64 ((i : Int) + 1), .int .i64 (left)]] w1 _ := HY1.out
            obtain ⟨fn, tmps, assign, body, hy, hR⟩ := hyy
            have HR := hide hR
            clear hR
            (try dsimp only)
            (repeat (first | go_values | gi_guarded | gi_step | gi_upon))
            refine HR.out.mono ?_
            rintro e W' (⟨rfl, h1, h2⟩ | ⟨rfl, h1⟩)
            · have HI2 : Hid (NxW W' N (N + 1) J (nxW c left (0 + 1))) := hide ⟨by rw [HN1.out]; exact h1, (h2.block N (Nat.le_refl _) (by omega)).trans HI1.out.b, Nat.le_trans HI1.out.m h2.size, by omega⟩
              clear h1 h2 HY1 HR hy
              (try dsimp only)
              (repeat (first | go_values | gi_guarded | gi_step | gi_upon))
              go_roundw
              case rel => exact ⟨0 + 1, by omega, rfl, HI2⟩
              case measure => simp [intOf]
            · have HX := hide h1
              clear h1 HY1 HR hy
              (try dsimp only)
              (repeat (first | go_values | gi_guarded | gi_step | gi_upon))
              refine bodyPost_ret (results_none rfl _ _ _) rfl ?_
              exact ⟨⟨_, rfl⟩, .inr ⟨_, HPRE.out, HX.out⟩⟩
          · by_cases hcw : (c.toNat : Int) = 103
            · have hok : okW c 103 left 2 = true := okW_yes (.inr (u8_eq (w := 103) hcw)) (.inl (by omega))
              have HN1 := hide (nx_yes0 hok)
              have HPRE := hide (nx_pre0 hok)
              clear hok
              have hlw : lfW left 2 = left := if_neg hlf
              rw [hlw] at HN1 HPRE
              clear hlw
              have HY1 := hide (HY.out _ _ _ _ HPRE.out HI1.out.m HI1.out.j)
              have hyy : YieldAt F (n - 1) Tryd.prog l #[.int .u8 103, .agg #[.int .i64 ((i : Int) + 1), .int .i64 (left)]] w1 _ := HY1.out
              obtain ⟨fn, tmps, assign, body, hy, hR⟩ := hyy
              have HR := hide hR
              clear hR
              (try dsimp only)
              (repeat (first | go_values | gi_guarded | gi_step | gi_upon))
              refine HR.out.mono ?_
              rintro e W' (⟨rfl, h1, h2⟩ | ⟨rfl, h1⟩)
              · have HI2 : Hid (NxW W' N (N + 1) J (nxW c left (0 + 1))) := hide ⟨by rw [HN1.out]; exact h1, (h2.block N (Nat.le_refl _) (by omega)).trans HI1.out.b, Nat.le_trans HI1.out.m h2.size, by omega⟩
                clear h1 h2 HY1 HR hy
                (try dsimp only)
                (repeat (first | go_values | gi_guarded | gi_step | gi_upon))
                go_roundw
                case rel => exact ⟨0 + 1, by omega, rfl, HI2⟩
                case measure => simp [intOf]
              · have HX := hide h1
                clear h1 HY1 HR hy
                (try dsimp only)
                (repeat (first | go_values | gi_guarded | gi_step | gi_upon))
                refine bodyPost_ret (results_none rfl _ _ _) rfl ?_
                exact ⟨⟨_, rfl⟩, .inr ⟨_, HPRE.out, HX.out⟩⟩
            · have hok : okW c 103 left 2 = false := okW_no1 (fun e => by subst e; exact h120 rfl) (fun e => by subst e; exact hcw rfl)
              have HN1 : Hid (nxW c left (0 + 1) = nxW c left 0) := hide (nx_no0 hok)
              clear hok
              (try dsimp only)
              (repeat (first | go_values | gi_guarded | gi_step | gi_upon))
              go_roundw
              case rel => exact ⟨0 + 1, by omega, rfl, by rw [HN1.out]; exact HI1⟩
              case measure => simp [intOf]
      · have cb : wr.cell? ⟨N, 1, none⟩ = some (.int .u8 108) := by unfold World.cell?; rw [HI.out.b]; rfl
        obtain ⟨ci, cl, cf, cs⟩ := HZ.out _ _ _ HI.out.j
        have z1 := cell_lt ci
        have z2 := cell_lt cf
        have z3 := cell_lt cs
        dsimp only at z1 z2 z3
        have hl := HL.out
        unfold LfOk at hl
        have hw1 : IntKind.i64.wrap ((i : Int) + 1) = (i : Int) + 1 := IntWalk.i64_in _ (by omega)
        have hw2 : IntKind.i64.wrap (left - 1) = left - 1 := IntWalk.i64_in _ (by omega)
        by_cases hlf : 0 ≤ left
        · (try dsimp only)
          (repeat (first | go_values | gi_guarded | gi_step | gi_upon))
          refine wpIn_on ?_
          refine wpIn_region_J (fun W : World => W.cell? ⟨pa, 0, none⟩ = some (.int .i64 (i : Nat)) ∧ W.cell? ⟨pf, 0, none⟩ = some (.pointer (some ⟨fb, 0, none⟩)) ∧ W.cell? ⟨fb, 0, none⟩ = some (.string s)) (by kernel_rfl) ?_
          have kp := Blk.new wr 127 #[.int .i64 ((i : Int) + 1), .int .i64 (left - 1)]
          have hb1 : Below wr.heap.size wr (wr.alloc (.cells #[.int .i64 ((i : Int) + 1), .int .i64 (left - 1)] 127)) := (Below.refl _ _).alloc (Nat.le_refl _) _
          have hb2 := (Below.refl (wr.alloc (.cells #[.int .i64 ((i : Int) + 1), .int .i64 (left - 1)] 127)).heap.size (wr.alloc (.cells #[.int .i64 ((i : Int) + 1), .int .i64 (left - 1)] 127))).drew
          have HI1 := hide ((HI.out.ext HJ.out hb1).ext HJ.out hb2)
          have KP := hide (kp.ext hb2)
          clear kp hb1 hb2 ci cl cf cs cb HI
          obtain ⟨g, hg⟩ : ∃ g, wr.heap.size = g := ⟨_, rfl⟩
          rw [hg] at KP z1 z2 z3 ⊢
          clear hg
          generalize (wr.alloc (.cells #[.int .i64 ((i : Int) + 1), .int .i64 (left - 1)] 127)).drew = w1 at HI1 KP ⊢
          obtain ⟨ci, cl, cf, cs⟩ := HZ.out _ _ _ HI1.out.j
          refine tk_start [0, 1, 2, 3, 4, 5, 6, 7, 8] ?_
          iterate 9
            refine tk_one (v := ?_) (by first | exact hF | exact wideFn) ⟨ci, cf, cs⟩ rfl (by kernel_rfl) (by kernel_rfl) (by kernel_rfl) (by kernel_rfl) rfl ?_ (by first | exact fun _ _ _ h => h | exact fun _ _ _ h => hQ2 _ _ _ _ _ h) ?_
            rotate_left
            · intro W hSW
              simp only [List.getElem_toArray, List.getElem_cons_zero, List.getElem_cons_succ]
              (try dsimp only at hSW)
              go_simp
              with_reducible rfl
            (try simp only [List.getElem_toArray, List.getElem_cons_zero, List.getElem_cons_succ, Act.put, List.setIfInBounds_toArray, List.set_cons_zero, List.set_cons_succ])
          refine tk_end ?_
          refine wpAnyJ_done (by kernel_rfl) ?_
          dsimp only [OnlyNormal]
          rw [HC.out]
          have hnf := KP.out.frozen 0
          obtain ⟨e1, e2, e3⟩ := bx2 KP.out
          by_cases h120 : (c.toNat : Int) = 120
          · by_cases hd : left < 1
            · have hd1 : (left - 1 : Int) < 0 := by omega
              have hok : okW c 108 left 1 = false := okW_no2 hlf hd
              have HN1 : Hid (nxW c left (1 + 1) = nxW c left 1) := hide (nx_no1 hok)
              clear hok
              (try dsimp only)
              (repeat (first | go_values | gi_guarded | gi_step | gi_upon))
              go_roundw
              case rel => exact ⟨1 + 1, by omega, rfl, by rw [HN1.out]; exact HI1⟩
              case measure => simp [intOf]
            · have hd1 : ¬ (left - 1 : Int) < 0 := by omega
              have hok : okW c 108 left 1 = true := okW_yes (.inl (u8_eq (w := 120) h120)) (.inr (by omega))
              have HN1 := hide (nx_yes1 hok)
              have HPRE := hide (nx_pre1 hok)
              clear hok
              have hlw : lfW left 1 = left - 1 := if_pos hlf
              rw [hlw] at HN1 HPRE
              clear hlw
              have HY1 := hide (HY.out _ _ _ _ HPRE.out HI1.out.m HI1.out.j)
              have hyy : YieldAt F (n - 1) Tryd.prog l #[.int .u8 108, .agg #[.int .i64 ((i : Int) + 1), .int .i64 (left - 1)]] w1 _ := HY1.out
              obtain ⟨fn, tmps, assign, body, hy, hR⟩ := hyy
              have HR := hide hR
              clear hR
              (try dsimp only)
              (repeat (first | go_values | gi_guarded | gi_step | gi_upon))
              refine HR.out.mono ?_
              rintro e W' (⟨rfl, h1, h2⟩ | ⟨rfl, h1⟩)
              · have HI2 : Hid (NxW W' N (N + 1) J (nxW c left (1 + 1))) := hide ⟨by rw [HN1.out]; exact h1, (h2.block N (Nat.le_refl _) (by omega)).trans HI1.out.b, Nat.le_trans HI1.out.m h2.size, by omega⟩
                clear h1 h2 HY1 HR hy
                (try dsimp only)
                (repeat (first | go_values | gi_guarded | gi_step | gi_upon))
                go_roundw
                case rel => exact ⟨1 + 1, by omega, rfl, HI2⟩
                case measure => simp [intOf]
              · have HX := hide h1
                clear h1 HY1 HR hy
                (try dsimp only)
                (repeat (first | go_values | gi_guarded | gi_step | gi_upon))
                refine bodyPost_ret (results_none rfl _ _ _) rfl ?_
                exact ⟨⟨_, rfl⟩, .inr ⟨_, HPRE.out, HX.out⟩⟩
          · by_cases hcw : (c.toNat : Int) = 108
            · by_cases hd : left < 1
              · have hd1 : (left - 1 : Int) < 0 := by omega
                have hok : okW c 108 left 1 = false := okW_no2 hlf hd
                have HN1 : Hid (nxW c left (1 + 1) = nxW c left 1) := hide (nx_no1 hok)
                clear hok
                (try dsimp only)
                (repeat (first | go_values | gi_guarded | gi_step | gi_upon))
                go_roundw
                case rel => exact ⟨1 + 1, by omega, rfl, by rw [HN1.out]; exact HI1⟩
                case measure => simp [intOf]
              · have hd1 : ¬ (left - 1 : Int) < 0 := by omega
                have hok : okW c 108 left 1 = true := okW_yes (.inr (u8_eq (w := 108) hcw)) (.inr (by omega))
                have HN1 := hide (nx_yes1 hok)
                have HPRE := hide (nx_pre1 hok)
                clear hok
                have hlw : lfW left 1 = left - 1 := if_pos hlf
                rw [hlw] at HN1 HPRE
                clear hlw
                have HY1 := hide (HY.out _ _ _ _ HPRE.out HI1.out.m HI1.out.j)
                have hyy : YieldAt F (n - 1) Tryd.prog l #[.int .u8 108, .agg #[.int .i64 ((i : Int) + 1), .int .i64 (left - 1)]] w1 _ := HY1.out
                obtain ⟨fn, tmps, assign, body, hy, hR⟩ := hyy
                have HR := hide hR
                clear hR
                (try dsimp only)
                (repeat (first | go_values | gi_guarded | gi_step | gi_upon))
                refine HR.out.mono ?_
                rintro e W' (⟨rfl, h1, h2⟩ | ⟨rfl, h1⟩)
                · have HI2 : Hid (NxW W' N (N + 1) J (nxW c left (1 + 1))) := hide ⟨by rw [HN1.out]; exact h1, (h2.block N (Nat.le_refl _) (by omega)).trans HI1.out.b, Nat.le_trans HI1.out.m h2.size, by omega⟩
                  clear h1 h2 HY1 HR hy
                  (try dsimp only)
                  (repeat (first | go_values | gi_guarded | gi_step | gi_upon))
                  go_roundw
                  case rel => exact ⟨1 + 1, by omega, rfl, HI2⟩
                  case measure => simp [intOf]
                · have HX := hide h1
                  clear h1 HY1 HR hy
                  (try dsimp only)
                  (repeat (first | go_values | gi_guarded | gi_step | gi_upon))
                  refine bodyPost_ret (results_none rfl _ _ _) rfl ?_
                  exact ⟨⟨_, rfl⟩, .inr ⟨_, HPRE.out, HX.out⟩⟩
            · have hok : okW c 108 left 1 = false := okW_no1 (fun e => by subst e; exact h120 rfl) (fun e => by subst e; exact hcw rfl)
              have HN1 : Hid (nxW c left (1 + 1) = nxW c left 1) := hide (nx_no1 hok)
              clear hok
              (try dsimp only)
              (repeat (first | go_values | gi_guarded | gi_step | gi_upon))
              go_roundw
              case rel => exact ⟨1 + 1, by omega, rfl, by rw [HN1.out]; exact HI1⟩
              case measure => simp [intOf]
        · (try dsimp only)
          (repeat (first | go_values | gi_guarded | gi_step | gi_upon))
          refine wpIn_on ?_
          refine wpIn_region_J (fun W : World => W.cell? ⟨pa, 0, none⟩ = some (.int .i64 (i : Nat)) ∧ W.cell? ⟨pf, 0, none⟩ = some (.pointer (some ⟨fb, 0, none⟩)) ∧ W.cell? ⟨fb, 0, none⟩ = some (.string s)) (by kernel_rfl) ?_
          have kp := Blk.new wr 127 #[.int .i64 ((i : Int) + 1), .int .i64 (left)]
          have hb1 : Below wr.heap.size wr (wr.alloc (.cells #[.int .i64 ((i : Int) + 1), .int .i64 (left)] 127)) := (Below.refl _ _).alloc (Nat.le_refl _) _
          have hb2 := (Below.refl (wr.alloc (.cells #[.int .i64 ((i : Int) + 1), .int .i64 (left)] 127)).heap.size (wr.alloc (.cells #[.int .i64 ((i : Int) + 1), .int .i64 (left)] 127))).drew
          have HI1 := hide ((HI.out.ext HJ.out hb1).ext HJ.out hb2)
          have KP := hide (kp.ext hb2)
          clear kp hb1 hb2 ci cl cf cs cb HI
          obtain ⟨g, hg⟩ : ∃ g, wr.heap.size = g := ⟨_, rfl⟩
          rw [hg] at KP z1 z2 z3 ⊢
          clear hg
          generalize (wr.alloc (.cells #[.int .i64 ((i : Int) + 1), .int .i64 (left)] 127)).drew = w1 at HI1 KP ⊢
          obtain ⟨ci, cl, cf, cs⟩ := HZ.out _ _ _ HI1.out.j
          refine tk_start [0, 1, 2, 3, 4, 5, 6, 7, 8] ?_
          iterate 9
            refine tk_one (v := ?_) (by first | exact hF | exact wideFn) ⟨ci, cf, cs⟩ rfl (by kernel_rfl) (by kernel_rfl) (by kernel_rfl) (by kernel_rfl) rfl ?_ (by first | exact fun _ _ _ h => h | exact fun _ _ _ h => hQ2 _ _ _ _ _ h) ?_
            rotate_left
            · intro W hSW
              simp only [List.getElem_toArray, List.getElem_cons_zero, List.getElem_cons_succ]
              (try dsimp only at hSW)
              go_simp
              with_reducible rfl
            (try simp only [List.getElem_toArray, List.getElem_cons_zero, List.getElem_cons_succ, Act.put, List.setIfInBounds_toArray, List.set_cons_zero, List.set_cons_succ])
          refine tk_end ?_
          refine wpAnyJ_done (by kernel_rfl) ?_
          dsimp only [OnlyNormal]
          rw [HC.out]
          have hnf := KP.out.frozen 0
          obtain ⟨e1, e2, e3⟩ := bx2 KP.out
          by_cases h120 : (c.toNat : Int) = 120
          · have hok : okW c 108 left 1 = true := okW_yes (.inl (u8_eq (w := 120) h120)) (.inl (by omega))
            have HN1 := hide (nx_yes1 hok)
            have HPRE := hide (nx_pre1 hok)
            clear hok
            have hlw : lfW left 1 = left := if_neg hlf
            rw [hlw] at HN1 HPRE
            clear hlw
            have HY1 := hide (HY.out _ _ _ _ HPRE.out HI1.out.m HI1.out.j)
            have hyy : YieldAt F (n - 1) Tryd.prog l #[.int .u8 108, .agg #[.int .i64 ((i : Int) + 1), .int .i64 (left)]] w1 _ := HY1.out
            obtain ⟨fn, tmps, assign, body, hy, hR⟩ := hyy
            have HR := hide hR
            clear hR
            (try dsimp only)
            (repeat (first | go_values | gi_guarded | gi_step | gi_upon))
            refine HR.out.mono ?_
            rintro e W' (⟨rfl, h1, h2⟩ | ⟨rfl, h1⟩)
            · have HI2 : Hid (NxW W' N (N + 1) J (nxW c left (1 + 1))) := hide ⟨by rw [HN1.out]; exact h1, (h2.block N (Nat.le_refl _) (by omega)).trans HI1.out.b, Nat.le_trans HI1.out.m h2.size, by omega⟩
              clear h1 h2 HY1 HR hy
              (try dsimp only)
              (repeat (first | go_values | gi_guarded | gi_step | gi_upon))
              go_roundw
              case rel => exact ⟨1 + 1, by omega, rfl, HI2⟩
              case measure => simp [intOf]
            · have HX := hide h1
              clear h1 HY1 HR hy
              (try dsimp only)
              (repeat (first | go_values | gi_guarded | gi_step | gi_upon))
              refine bodyPost_ret (results_none rfl _ _ _) rfl ?_
              exact ⟨⟨_, rfl⟩, .inr ⟨_, HPRE.out, HX.out⟩⟩
          · by_cases hcw : (c.toNat : Int) = 108
            · have hok : okW c 108 left 1 = true := okW_yes (.inr (u8_eq (w := 108) hcw)) (.inl (by omega))
              have HN1 := hide (nx_yes1 hok)
              have HPRE := hide (nx_pre1 hok)
              clear hok
              have hlw : lfW left 1 = left := if_neg hlf
              rw [hlw] at HN1 HPRE
              clear hlw
              have HY1 := hide (HY.out _ _ _ _ HPRE.out HI1.out.m HI1.out.j)
              have hyy : YieldAt F (n - 1) Tryd.prog l #[.int .u8 108, .agg #[.int .i64 ((i : Int) + 1), .int .i64 (left)]] w1 _ := HY1.out
              obtain ⟨fn, tmps, assign, body, hy, hR⟩ := hyy
              have HR := hide hR
              clear hR
              (try dsimp only)
              (repeat (first | go_values | gi_guarded | gi_step | gi_upon))
              refine HR.out.mono ?_
              rintro e W' (⟨rfl, h1, h2⟩ | ⟨rfl, h1⟩)
              · have HI2 : Hid (NxW W' N (N + 1) J (nxW c left (1 + 1))) := hide ⟨by rw [HN1.out]; exact h1, (h2.block N (Nat.le_refl _) (by omega)).trans HI1.out.b, Nat.le_trans HI1.out.m h2.size, by omega⟩
                clear h1 h2 HY1 HR hy
                (try dsimp only)
                (repeat (first | go_values | gi_guarded | gi_step | gi_upon))
                go_roundw
                case rel => exact ⟨1 + 1, by omega, rfl, HI2⟩
                case measure => simp [intOf]
              · have HX := hide h1
                clear h1 HY1 HR hy
                (try dsimp only)
                (repeat (first | go_values | gi_guarded | gi_step | gi_upon))
                refine bodyPost_ret (results_none rfl _ _ _) rfl ?_
                exact ⟨⟨_, rfl⟩, .inr ⟨_, HPRE.out, HX.out⟩⟩
            · have hok : okW c 108 left 1 = false := okW_no1 (fun e => by subst e; exact h120 rfl) (fun e => by subst e; exact hcw rfl)
              have HN1 : Hid (nxW c left (1 + 1) = nxW c left 1) := hide (nx_no1 hok)
              clear hok
              (try dsimp only)
              (repeat (first | go_values | gi_guarded | gi_step | gi_upon))
              go_roundw
              case rel => exact ⟨1 + 1, by omega, rfl, by rw [HN1.out]; exact HI1⟩
              case measure => simp [intOf]
    · obtain rfl : k = 2 := by omega
      (try dsimp only)
      (repeat (first | go_values | gi_guarded | gi_step | gi_upon))
      go_end0
      exact ⟨⟨_, rfl⟩, .inl ⟨N + 1, HI.out.j⟩⟩
end Go.Proofs.YtlkkkgpcjdemdaaDoor
/- Song: a map of places and numbers: in how many ways the rest can be filled, as far as it is known. -/
namespace Go.Proofs.YtlkkkgpcjdemdaaDoor
open Go Go.RowKit Go.Shelf
set_option maxHeartbeats 8000000
set_option maxRecDepth 100000
/-- a place: how much of the pattern lies behind, and what is left -/
def plV (x : Nat × Int) : Value := .agg #[.int .i64 (x.1 : Nat), .int .i64 x.2]
/-- places that pattern p can come to -/
structure PlOk (p : List UInt8) (x : Nat × Int) : Prop where
  n : p.length ≤ 60
  i : x.1 ≤ p.length
  l : LfOk x.2
def plW (p : List UInt8) (x : Nat × Int) : Nat := ctW (p.drop x.1) x.2
theorem plW_bd {p : List UInt8} (h : p.length ≤ 60) (x : Nat × Int) : plW p x ≤ 1152921504606846976 := ctW_bd (by rw [List.length_drop]; omega) _
theorem pl_laid : laidOutB Tryd.prog = true := by kernel_rfl
theorem pl_keyed : Maps.Keyed Tryd.prog 127 := Maps.Keyed.of_law (deep_law_laid pl_laid (m := 2) (by omega) (of_decide_eq_true (by kernel_rfl)) (by kernel_rfl) (by kernel_rfl))
theorem pl_size : Tryd.prog.types.size = (Tryd.prog.types.size - 3) + 3 := by kernel_rfl
theorem pl_keyT : Tryd.prog.keyType 127 = true := by kernel_rfl
theorem pl_formed (a b : Value) : (Value.agg #[a, b]).formed Tryd.prog 127 = true := by kernel_rfl
theorem pl_lits (n : Nat) (i : Nat) (left : Int) (h1 : i ≤ 1000000) (h2 : -1 ≤ left ∧ left ≤ 1000000) :
    Tryd.prog.keyLits (n + 3) 127 [.int .i64 (i : Nat), .int .i64 left] = some [.int .i64 (i : Nat), .int .i64 left] := by
  have w2 : (Lit.int .i64 (i : Nat)).wf = true := by simp [Lit.wf, IntKind.min, IntKind.max, IntKind.signed, IntKind.bits]; omega
  have w3 : (Lit.int .i64 left).wf = true := by simp [Lit.wf, IntKind.min, IntKind.max, IntKind.signed, IntKind.bits]; omega
  have c0 : Tryd.prog.cellsOf 127 = 2 := by kernel_rfl
  have c2 : Tryd.prog.cellsOf 3 = 1 := by kernel_rfl
  simp [Program.keyLits, Tryd.underlying127, Tryd.underlying3, c0, c2, w2, w3]
theorem pl_key {p : List UInt8} {x : Nat × Int} (h : PlOk p x) : ∃ l, keyOf Tryd.prog 127 (plV x) = some l := by
  obtain ⟨i, left⟩ := x
  obtain ⟨h1, h2, h3, h4⟩ := h
  dsimp only at h1 h2 h3 h4
  unfold keyOf plV
  rw [Tryd.underlying127]
  dsimp only
  rw [pl_keyT, pl_formed, pl_size]
  show ∃ l, (if true = true then Option.map _ (Tryd.prog.keyLits (Tryd.prog.types.size - 3 + 1 + 3) 127 [.int .i64 (i : Nat), .int .i64 left]) else none) = some l
  rw [if_pos rfl, pl_lits _ _ _ (by omega) ⟨h3, by omega⟩]
  exact ⟨_, rfl⟩
theorem nodup_le {α : Type} [DecidableEq α] : ∀ (l M : List α), l.Pairwise (· ≠ ·) → (∀ x ∈ l, x ∈ M) → l.length ≤ M.length
  | [], _, _, _ => Nat.zero_le _
  | x :: l, M, h, hs => by
    obtain ⟨h1, h2⟩ := List.pairwise_cons.1 h
    have hx := hs x (by simp)
    have := nodup_le l (M.erase x) h2 fun y hy => (List.mem_erase_of_ne (h1 y hy).symm).2 (hs y (by simp [hy]))
    rw [List.length_erase_of_mem hx] at this
    have := List.length_pos_of_mem hx
    simp only [List.length_cons]
    omega
/-- block b holds the numbers of some places of pattern p -/
def PmAt (w : World) (b : Nat) (p : List UInt8) : Prop :=
  ∃ (es : List (Lit × DataW Unit)) (n : Nat), w.ownsMap Tryd.prog 127 (plainElem Tryd.prog 3) b n (.map es) ∧ ∀ q ∈ es, ∃ x, PlOk p x ∧ keyOf Tryd.prog 127 (plV x) = some q.1 ∧ q.2 = .lit (.int .i64 (plW p x))
theorem PmAt.lt {w : World} {b : Nat} {p : List UInt8} (h : PmAt w b p) : b < w.heap.size := by
  obtain ⟨es, n, h1, -⟩ := h
  exact h1.lt
theorem PmAt.made (w : World) (p : List UInt8) : PmAt (w.alloc (.map #[] 0)) w.heap.size p :=
  ⟨[], 0, World.ownsMap_made w _ _ _, fun q hq => by cases hq⟩
theorem PmAt.kept {w w' : World} {b : Nat} {p : List UInt8} (h : PmAt w b p) {row : Option Nat} (hg : w.grownBy w' row) (hne : some b ≠ row) : PmAt w' b p := by
  obtain ⟨es, n, h1, h2⟩ := h
  exact ⟨es, n, h1.kept hg hne, h2⟩
theorem grown_no' {w w' : World} (hb : Below w.heap.size w w') : w.grownBy w' none := ⟨hb.os, hb.tape, hb.output, hb.size, fun i hi _ => hb.block i hi⟩
theorem PmAt.ext {w w' : World} {b : Nat} {p : List UInt8} (h : PmAt w b p) (hb : Below w.heap.size w w') : PmAt w' b p := h.kept (grown_no' hb) (by simp)
theorem PmAt.map {w : World} {b : Nat} {p : List UInt8} (h : PmAt w b p) : ∃ o : Obj, w.heap[b]? = some o ∧ o.isCells = false := by
  obtain ⟨es, n, ⟨es', clock, h1, -⟩, -⟩ := h
  exact ⟨_, h1, rfl⟩
/-- the map is the same object where the heap has the same object -/
theorem PmAt.same {w w' : World} {b : Nat} {p : List UInt8} (h : PmAt w b p) (hb : w'.heap[b]? = w.heap[b]?) : PmAt w' b p := by
  obtain ⟨es, n, ⟨es', clock, h1, h3⟩, h2⟩ := h
  exact ⟨es, n, ⟨es', clock, hb.trans h1, h3⟩, h2⟩
def plAt (i : Nat) : Nat × Int := (i % 64, ((i / 64 : Nat) : Int) - 1)
theorem plAt_ok {p : List UInt8} {x : Nat × Int} (h : PlOk p x) : ∃ i, i < 64 * 128 ∧ plAt i = x := by
  obtain ⟨i, left⟩ := x
  obtain ⟨h1, h2, h3, h4⟩ := h
  dsimp only at h1 h2 h3 h4
  refine ⟨i + 64 * (left + 1).toNat, by omega, ?_⟩
  unfold plAt
  have e1 : (i + 64 * (left + 1).toNat) % 64 = i := by omega
  have e2 : (i + 64 * (left + 1).toNat) / 64 = (left + 1).toNat := by omega
  rw [e1, e2]
  congr 1; omega
theorem pm_size {w : World} {b : Nat} {p : List UInt8} {es : List (Lit × DataW Unit)} {n : Nat} (h1 : w.ownsMap Tryd.prog 127 (plainElem Tryd.prog 3) b n (.map es))
    (h2 : ∀ q ∈ es, ∃ x, PlOk p x ∧ keyOf Tryd.prog 127 (plV x) = some q.1 ∧ q.2 = .lit (.int .i64 (plW p x))) : es.length ≤ 64 * 128 := by
  classical
  obtain ⟨es', e, hd⟩ := h1.tidy pl_keyed
  injection e with e
  subst e
  have h3 := nodup_le (es.map (·.1)) ((List.range (64 * 128)).map fun i => (keyOf Tryd.prog 127 (plV (plAt i))).getD (.bool true)) (List.pairwise_map.2 hd) (fun x hx => by
    obtain ⟨q, hp, rfl⟩ := List.mem_map.1 hx
    obtain ⟨m, hm, hk, -⟩ := h2 q hp
    obtain ⟨i, hi, rfl⟩ := plAt_ok hm
    exact List.mem_map.2 ⟨i, List.mem_range.2 hi, by rw [hk]; rfl⟩)
  rw [List.length_map, List.length_map, List.length_range] at h3
  exact h3
theorem pm_look {w : World} {b : Nat} {p : List UInt8} (h : PmAt w b p) {x : Nat × Int} (hx : PlOk p x) :
    ∃ (c : Int) (y : Bool), (Instr.lookup 160 (.map (some b)) (plV x) true).run Tryd.prog w = .ok (.tuple #[.int .i64 c, .bool y]) w ∧ (y = true → c = plW p x) := by
  obtain ⟨es, n, h1, h2⟩ := h
  obtain ⟨l, hl⟩ := pl_key hx
  obtain ⟨v, ps, hrun, hv⟩ := h1.look_ok (t := 160) (e := 3) (z := .int .i64 0) (zd := .lit (.int .i64 0)) (zp := []) pl_keyed Tryd.underlying160 (by kernel_rfl) (plainElem_int Tryd.underlying3 (by decide)) hl
  obtain ⟨c, rfl, hc, -⟩ := plainElem_int_inv Tryd.underlying3 hv
  simp only [Prod.mk.injEq] at hc
  refine ⟨c, _, hrun, fun hy => ?_⟩
  obtain ⟨hc, -⟩ := hc
  unfold Maps.has at hy
  obtain ⟨q, hp, hs⟩ := List.any_eq_true.1 hy
  unfold DataW.atKey at hc
  dsimp only at hc
  cases hf : es.find? (fun p => p.1.sameKey l) with
  | none => exact absurd hs (by have := List.find?_eq_none.1 hf q hp; exact this)
  | some q =>
    rw [hf] at hc
    dsimp only at hc
    obtain ⟨m', hm', hk, he⟩ := h2 q (List.mem_of_find?_eq_some hf)
    have e1 : q.1 = l := WideAt.sameKey_eq (List.find?_some (p := fun p : Lit × DataW Unit => p.1.sameKey l) hf)
    rw [e1] at hk
    have e2 := pl_keyed.inj hk hl
    have e3 : m' = x := by
      obtain ⟨a, b⟩ := m'
      obtain ⟨a', b'⟩ := x
      unfold plV at e2
      simp at e2
      obtain ⟨e4, rfl⟩ := e2
      congr 1
      first | exact e4 | omega
    subst e3
    rw [he] at hc
    simpa using hc.symm
theorem pm_put {w : World} {b : Nat} {p : List UInt8} (h : PmAt w b p) {x : Nat × Int} (hx : PlOk p x) :
    ∃ w', (Instr.mapUpdate 160 (.map (some b)) (plV x) (.int .i64 (plW p x))).run Tryd.prog w = .ok () w' ∧ PmAt w' b p ∧ w.grownBy w' (some b) := by
  obtain ⟨es, n, h1, h2⟩ := h
  obtain ⟨l, hl⟩ := pl_key hx
  have hs := pm_size h1 h2
  have h3 : w.ownsMap Tryd.prog 127 (plainElem Tryd.prog 3) b (64 * 128) (.map es) := by
    obtain ⟨es', clock, hb, F, -, hD⟩ := h1
    refine ⟨es', clock, hb, F, ?_, hD⟩
    injection hD with hD
    have e := congrArg List.length hD
    rw [length_sorted] at e
    simp at e
    omega
  have hw : (Lit.int .i64 (plW p x)).wf = true := by
    have := plW_bd hx.n x
    simp [Lit.wf, IntKind.min, IntKind.max, IntKind.signed, IntKind.bits]
    omega
  obtain ⟨w', hrun, hown, hg⟩ := h3.update (t := 160) (e := 3) (val := .int .i64 (plW p x)) pl_keyed Tryd.underlying160 (by decide) hl (plainElem_int Tryd.underlying3 hw)
  refine ⟨w', hrun, ⟨_, _, hown, fun q hp => ?_⟩, hg⟩
  rcases ChangeMaps.mem_insert_iff.1 hp with rfl | hp
  · exact ⟨x, hx, hl, rfl⟩
  · exact h2 q (List.mem_filter.1 hp).1
end Go.Proofs.YtlkkkgpcjdemdaaDoor
