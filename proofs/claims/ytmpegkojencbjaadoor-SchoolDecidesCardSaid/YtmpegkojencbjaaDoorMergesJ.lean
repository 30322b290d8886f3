/- School, plain: what a rule for one case alone decides. -/
import Derived.Test.YtmpegkojencbjaaDoorMergesI
import Derived.Deep.CutBlock
import Derived.Deep.DeepCutAuto
import Derived.IntWalk
import Derived.Deep.QuietTactic
import Derived.BigQuiet
set_option linter.unusedSimpArgs false
set_option linter.unusedVariables false
set_option linter.unnecessarySimpa false
namespace Go.Proofs.YtmpegkojencbjaaDoor
open Go Go.RowKit Go.Shelf
set_option maxHeartbeats 4000000
set_option maxRecDepth 100000
theorem sp_same (a : Nat → Nat) : spc a a = false := by
  unfold spc
  rw [eqS_iff.2 fun _ _ => rfl]
  rfl
theorem eq_of_in {a b : Nat → Nat} (ha : ∀ k, a k < 65536) (hb : ∀ k, b k < 65536) (h1 : inTo a b 5 = true) (h2 : inTo b a 5 = true) : ∀ j, j < 5 → a j = b j := by
  rw [in_iff ha hb] at h1
  rw [in_iff hb ha] at h2
  intro j hj
  refine Nat.eq_of_testBit_eq fun i => ?_
  rw [Bool.eq_iff_iff]
  exact ⟨h1 j hj i, h2 j hj i⟩
theorem sp_anti {a b : Nat → Nat} (ha : ∀ k, a k < 65536) (hb : ∀ k, b k < 65536) (h : spc a b = true) : spc b a = false := by
  unfold spc at h ⊢
  rw [Bool.and_eq_true] at h
  rw [Bool.and_eq_false_iff]
  right
  rw [← Bool.not_eq_true]
  intro h2
  rw [eqS_iff.2 (eq_of_in ha hb h.2 h2)] at h
  simp at h
theorem st_lt {s : Sch} (hs : schB s = true) (k j : Nat) : stF s k j < 65536 := by
  rcases st_shape hs k with h | ⟨-, h2, h3⟩
  · rw [h]; decide
  · rcases Nat.lt_or_ge j s.fs.length with hj | hj
    · have h4 := fsB_at (schB_ok hs).fs j hj
      have h5 : stF s k j < 2 ^ 4 := Nat.lt_pow_two_of_testBit _ fun i hi => by
        rw [← Bool.not_eq_true]
        intro h6
        have := h3 j i h6
        omega
      omega
    · rw [h2 j hj]; decide
theorem pt_in {s : Sch} (hs : schB s = true) {c : List Int} (hc : icB s.fs c = true) {k : Nat} (h : hsB (stF s k) c = true) : inTo (ptF c) (stF s k) 5 = true := by
  rw [in_iff (pt_small (schB_ok hs).fs hc) (st_lt hs k)]
  rw [has_iff (st_lt hs k)] at h
  intro j _ i hi
  obtain ⟨h1, rfl⟩ := (pt_bit _ _ _).1 hi
  exact h j h1
/-- no rule that applies in a case is more special than the one for this case alone -/
theorem not_sp_pt {s : Sch} (hs : schB s = true) {c : List Int} (hc : icB s.fs c = true) {k : Nat} (h : hsB (stF s k) c = true) : spc (stF s k) (ptF c) = false := by
  unfold spc
  rw [Bool.and_eq_false_iff]
  rcases h2 : inTo (stF s k) (ptF c) 5 with _ | _
  · exact .inr rfl
  · left
    rw [eqS_iff.2 (eq_of_in (st_lt hs k) (pt_small (schB_ok hs).fs hc) h2 (pt_in hs hc h))]
    rfl
/-- a rule that applies in a case is beaten by the one for this case alone, if it asks for more -/
theorem pt_eq {s : Sch} (hs : schB s = true) {c : List Int} (hc : icB s.fs c = true) {k : Nat} (h : hsB (stF s k) c = true) (h2 : spc (ptF c) (stF s k) = false) : ∀ j, j < 5 → stF s k j = ptF c j := by
  unfold spc at h2
  rw [pt_in hs hc h, Bool.and_true] at h2
  have h3 : eqS (ptF c) (stF s k) = true := by simpa using h2
  exact fun j hj => (eqS_iff.1 h3 j hj).symm
theorem sp_congr {a a' b b' : Nat → Nat} (h : ∀ j, j < 5 → a j = a' j) (h2 : ∀ j, j < 5 → b j = b' j) : spc a b = spc a' b' := by
  unfold spc eqS inTo
  rw [h 0 (by decide), h 1 (by decide), h 2 (by decide), h 3 (by decide), h 4 (by decide), h2 0 (by decide), h2 1 (by decide), h2 2 (by decide), h2 3 (by decide), h2 4 (by decide)]
  congr 1
  rw [decide_eq_decide]
  exact ⟨fun h3 k hk => by rw [← h k hk, ← h2 k hk]; exact h3 k hk, fun h3 k hk => by rw [h k hk, h2 k hk]; exact h3 k hk⟩
/-- what a rule asks -/
def apQ (s : Sch) (st : Nat → Nat → Nat) (c : List Int) (q : Int) (i : Nat) : Bool := ((s.rs.getD i r0).ask == q) && hsB (st i) c
theorem dcA_mem {s : Sch} {st : Nat → Nat → Nat} {c : List Int} {q : Int} {x : Int} : x ∈ dcA s st c q ↔ ∃ k : Nat, x = (k : Int) ∧ k < s.rs.length ∧ apQ s st c q k = true := by
  constructor
  · intro h
    exact apF_mem _ _ _ h
  · rintro ⟨k, rfl, h1, h2⟩
    exact apF_in h1 h2
theorem top_iff {st : Nat → Nat → Nat} {ap : List Int} {i : Int} : topB st ap i = true ↔ ∀ x ∈ ap, spc (st x.toNat) (st i.toNat) = false := by
  unfold topB
  rw [Bool.not_eq_true', ← Bool.not_eq_true, anyTo_iff]
  constructor
  · intro h x hx
    obtain ⟨k, hk, rfl⟩ := List.getElem_of_mem hx
    rw [← Bool.not_eq_true]
    intro h2
    exact h ⟨k, hk, by rw [List.getD_eq_getElem?_getD, List.getElem?_eq_getElem hk]; exact h2⟩
  · rintro h ⟨k, hk, h2⟩
    rw [List.getD_eq_getElem?_getD, List.getElem?_eq_getElem hk] at h2
    have h3 := h _ (List.getElem_mem hk)
    change spc (st (ap[k]).toNat) _ = true at h2
    rw [h3] at h2
    cases h2
theorem dcB_mem {s : Sch} {st : Nat → Nat → Nat} {c : List Int} {q : Int} {x : Int} : x ∈ dcB s st c q ↔ ∃ k : Nat, x = (k : Int) ∧ k < s.rs.length ∧ apQ s st c q k = true ∧ ∀ j, j < s.rs.length → apQ s st c q j = true → spc (st j) (st k) = false := by
  unfold dcB
  rw [List.mem_filter, dcA_mem, top_iff]
  constructor
  · rintro ⟨⟨k, rfl, h1, h2⟩, h3⟩
    refine ⟨k, rfl, h1, h2, fun j hj hq => ?_⟩
    have := h3 (j : Int) (dcA_mem.2 ⟨j, rfl, hj, hq⟩)
    simpa using this
  · rintro ⟨k, rfl, h1, h2, h3⟩
    refine ⟨⟨k, rfl, h1, h2⟩, fun x hx => ?_⟩
    obtain ⟨j, rfl, hj, hq⟩ := dcA_mem.1 hx
    simpa using h3 j hj hq
/-- what is said by a rule -/
def sayF (s : Sch) (x : Int) : Int := (s.rs.getD x.toNat r0).say
theorem clB_iff {s : Sch} {l : List Int} : clB s l = true ↔ ∃ x ∈ l, sayF s x ≠ sayF s (l.getD 0 0) := by
  unfold clB sayF
  rw [anyTo_iff]
  constructor
  · rintro ⟨k, hk, h⟩
    have e : l.getD k 0 = l[k] := by rw [List.getD_eq_getElem?_getD, List.getElem?_eq_getElem hk]; rfl
    rw [e] at h
    exact ⟨_, List.getElem_mem hk, by simpa using h⟩
  · rintro ⟨x, hx, h⟩
    obtain ⟨k, hk, rfl⟩ := List.getElem_of_mem hx
    refine ⟨k, hk, ?_⟩
    have e : l.getD k 0 = l[k] := by rw [List.getD_eq_getElem?_getD, List.getElem?_eq_getElem hk]; rfl
    rw [e]
    simpa using h
theorem dcF_cases (s : Sch) (st : Nat → Nat → Nat) (c : List Int) (q : Int) :
    (dcB s st c q = [] ∧ dcF s st c q = (0, 7, [])) ∨ (dcB s st c q ≠ [] ∧ (∃ x ∈ dcB s st c q, sayF s x ≠ sayF s ((dcB s st c q).getD 0 0)) ∧ dcF s st c q = (0, 110, [])) ∨
      (dcB s st c q ≠ [] ∧ (∀ x ∈ dcB s st c q, sayF s x = sayF s ((dcB s st c q).getD 0 0)) ∧ dcF s st c q = (sayF s ((dcB s st c q).getD 0 0), 0, dcB s st c q)) := by
  unfold dcF
  by_cases h : (dcB s st c q).length = 0
  · rw [if_pos h]
    exact .inl ⟨List.length_eq_zero_iff.1 h, rfl⟩
  · rw [if_neg h]
    have hne : dcB s st c q ≠ [] := fun e => h (by rw [e]; rfl)
    right
    rcases h2 : clB s (dcB s st c q) with _ | _
    · right
      refine ⟨hne, fun x hx => ?_, rfl⟩
      rcases Classical.em (sayF s x = sayF s ((dcB s st c q).getD 0 0)) with h3 | h3
      · exact h3
      · rw [clB_iff.2 ⟨x, hx, h3⟩] at h2
        cases h2
    · exact .inl ⟨hne, clB_iff.1 h2, rfl⟩
theorem dcF_len (s : Sch) (st : Nat → Nat → Nat) (c : List Int) (q : Int) : (dcF s st c q).2.2.length ≤ s.rs.length := by
  rcases dcF_cases s st c q with ⟨-, h⟩ | ⟨-, -, h⟩ | ⟨-, -, h⟩ <;> rw [h]
  · exact Nat.zero_le _
  · exact Nat.zero_le _
  · exact Nat.le_trans (List.length_filter_le _ _) (apF_len _ _)
theorem decR_len (s : Sch) (c : List Int) (q : Int) : (decR s c q).2.2.length ≤ s.rs.length := by
  unfold decR
  split
  · split
    · split
      · exact dcF_len _ _ _ _
      · exact Nat.zero_le _
    · exact Nat.zero_le _
  · exact Nat.zero_le _
theorem decR_ok {s : Sch} {c : List Int} {q : Int} (hs : schB s = true) (hq : 0 ≤ q ∧ q ≤ s.q - 1) (hc : icB s.fs c = true) : decR s c q = dcF s (stF s) c q := by
  unfold decR
  rw [if_pos hs, if_pos hq, if_pos hc]
theorem dcF_old {s : Sch} {st : Nat → Nat → Nat} {c : List Int} {q : Int} (h : (dcF s st c q).2.1 = 0) : (dcF s st c q).2.2 ≠ [] := by
  rcases dcF_cases s st c q with ⟨-, h2⟩ | ⟨-, -, h2⟩ | ⟨h1, -, h2⟩
  · rw [h2] at h; cases h
  · rw [h2] at h; cases h
  · rw [h2]; exact h1
/-- THE SPECIAL PREVAILS -/
theorem prevails {s : Sch} (hs : schB s = true) (hn : s.rs.length ≤ 11) {c : List Int} (hc : icB s.fs c = true) {a y : Int} (ha : 0 ≤ a ∧ a ≤ s.q - 1) (hy : 0 ≤ y ∧ y ≤ 999) :
    ((decR (plusR s (oneR c a y)) c a).2.1 = 0 ∧ (decR (plusR s (oneR c a y)) c a).1 = y ∧ ∃ l, (decR (plusR s (oneR c a y)) c a).2.2 = l ++ [(s.rs.length : Int)]) ∨
      ((decR (plusR s (oneR c a y)) c a).2.1 = 110 ∧ (decR s c a).2.1 ≠ 7 ∧ ((decR s c a).2.1 = 0 → (decR s c a).1 ≠ y)) := by
  have hf := (schB_ok hs).fs
  have ht := plus_ok hs hn (one_rl hs hc ha hy)
  obtain ⟨t, htt⟩ : ∃ t, plusR s (oneR c a y) = t := ⟨_, rfl⟩
  have hlen : t.rs.length = s.rs.length + 1 := by rw [← htt]; exact plus_len
  have hold : ∀ k, k < s.rs.length → t.rs.getD k r0 = s.rs.getD k r0 := fun k hk => by rw [← htt]; exact plus_old hk
  have hnew : t.rs.getD s.rs.length r0 = oneR c a y := by rw [← htt]; exact plus_new
  have hso : ∀ k, k < s.rs.length → stF t k = stF s k := fun k hk => by rw [← htt]; exact plus_st hk
  have hsn : stF t s.rs.length = ptF c := by rw [← htt]; exact plus_stn hs hc a y
  have htq : t.q = s.q := by rw [← htt]; rfl
  have htf : t.fs = s.fs := by rw [← htt]; rfl
  rw [htt] at ht ⊢
  rw [decR_ok ht (by rw [htq]; exact ha) (by rw [htf]; exact hc), decR_ok hs ha hc]
  have hap : apQ t (stF t) c a s.rs.length = true := by
    unfold apQ
    rw [hnew, hsn, (pt_has hf hc hc).2 rfl]
    simp [oneR]
  have hapo : ∀ k, k < s.rs.length → apQ t (stF t) c a k = apQ s (stF s) c a k := fun k hk => by
    unfold apQ
    rw [hold k hk, hso k hk]
  have hhas : ∀ k, apQ s (stF s) c a k = true → hsB (stF s k) c = true := fun k h => by
    unfold apQ at h
    rw [Bool.and_eq_true] at h
    exact h.2
  -- the new rule decides
  have hlast : ∃ l, dcB t (stF t) c a = l ++ [(s.rs.length : Int)] := by
    have e : dcA t (stF t) c a = apF (apQ t (stF t) c a) s.rs.length ++ [(s.rs.length : Int)] := by
      show apF (apQ t (stF t) c a) t.rs.length = _
      rw [hlen]
      show (if apQ t (stF t) c a s.rs.length then _ else _) = _
      rw [if_pos hap]
    have htop : topB (stF t) (dcA t (stF t) c a) (s.rs.length : Int) = true := by
      rw [top_iff]
      intro x hx
      obtain ⟨k, rfl, h1, h2⟩ := dcA_mem.1 hx
      rw [Int.toNat_natCast, Int.toNat_natCast, hsn]
      rcases (by omega : k < s.rs.length ∨ k = s.rs.length) with h3 | h3
      · rw [hso k h3]
        exact not_sp_pt hs hc (hhas k (by rw [← hapo k h3]; exact h2))
      · rw [h3, hsn]
        exact sp_same _
    unfold dcB
    rw [e] at htop ⊢
    rw [List.filter_append]
    exact ⟨_, by rw [show List.filter (topB (stF t) (apF (apQ t (stF t) c a) s.rs.length ++ [(s.rs.length : Int)])) [(s.rs.length : Int)] = [(s.rs.length : Int)] from by
      rw [List.filter_cons, if_pos htop]; rfl]⟩
  have hmem : (s.rs.length : Int) ∈ dcB t (stF t) c a := by
    obtain ⟨l, hl⟩ := hlast
    rw [hl]; simp
  have hsay : sayF t (s.rs.length : Int) = y := by
    unfold sayF
    rw [Int.toNat_natCast, hnew]
    rfl
  rcases dcF_cases t (stF t) c a with ⟨h1, -⟩ | ⟨-, ⟨x, hx, hne⟩, h2⟩ | ⟨-, h1, h2⟩
  · rw [h1] at hmem; cases hmem
  · right
    refine ⟨by rw [h2], ?_⟩
    -- somebody else asks for this case alone
    have hz : ∃ z ∈ dcB t (stF t) c a, sayF t z ≠ y := by
      by_cases e : sayF t x = y
      · refine ⟨(dcB t (stF t) c a).getD 0 0, ?_, fun e2 => hne (by rw [e, e2])⟩
        rw [List.getD_eq_getElem?_getD]
        obtain ⟨l, hl⟩ := hlast
        have h0 : 0 < (dcB t (stF t) c a).length := by rw [hl]; simp
        rw [List.getElem?_eq_getElem h0]
        exact List.getElem_mem h0
      · exact ⟨x, hx, e⟩
    obtain ⟨z, hz, hzy⟩ := hz
    obtain ⟨k, rfl, hk, hq, hb⟩ := dcB_mem.1 hz
    have hkn : k < s.rs.length := by
      rcases (by omega : k < s.rs.length ∨ k = s.rs.length) with h3 | h3
      · exact h3
      · rw [h3] at hzy; exact absurd hsay hzy
    have hqs : apQ s (stF s) c a k = true := by rw [← hapo k hkn]; exact hq
    have hkk := hhas k hqs
    have hbn := hb s.rs.length (by omega) hap
    rw [hsn, hso k hkn] at hbn
    have hse := pt_eq hs hc hkk hbn
    have hin : (k : Int) ∈ dcB s (stF s) c a := by
      refine dcB_mem.2 ⟨k, rfl, hkn, hqs, fun j hj hjq => ?_⟩
      rw [sp_congr (b := stF s k) (b' := ptF c) (fun _ _ => rfl) hse]
      exact not_sp_pt hs hc (hhas j hjq)
    have hsk : sayF s (k : Int) ≠ y := by
      intro e
      apply hzy
      rw [← e]
      unfold sayF
      rw [Int.toNat_natCast, hold k hkn]
    rcases dcF_cases s (stF s) c a with ⟨h3, -⟩ | ⟨-, -, h4⟩ | ⟨-, h3, h4⟩
    · rw [h3] at hin; cases hin
    · rw [h4]; exact ⟨by decide, fun h => absurd h (by decide)⟩
    · rw [h4]
      refine ⟨fun h => absurd (show (0 : Int) = 7 from h) (by decide), fun _ => ?_⟩
      show sayF s _ ≠ y
      rw [← h3 _ hin]
      exact hsk
  · left
    rw [h2]
    refine ⟨rfl, ?_, hlast⟩
    show sayF t _ = y
    rw [← h1 _ hmem]
    exact hsay
/-- where it does not apply nothing changes -/
theorem prevails_other {s : Sch} (hs : schB s = true) (hn : s.rs.length ≤ 11) {c d : List Int} (hc : icB s.fs c = true) (hd : icB s.fs d = true) (hne : c ≠ d) {a y : Int} (ha : 0 ≤ a ∧ a ≤ s.q - 1) (hy : 0 ≤ y ∧ y ≤ 999) :
    decR (plusR s (oneR c a y)) d a = decR s d a := by
  have hf := (schB_ok hs).fs
  have ht := plus_ok hs hn (one_rl hs hc ha hy)
  obtain ⟨t, htt⟩ : ∃ t, plusR s (oneR c a y) = t := ⟨_, rfl⟩
  have hlen : t.rs.length = s.rs.length + 1 := by rw [← htt]; exact plus_len
  have hold : ∀ k, k < s.rs.length → t.rs.getD k r0 = s.rs.getD k r0 := fun k hk => by rw [← htt]; exact plus_old hk
  have hso : ∀ k, k < s.rs.length → stF t k = stF s k := fun k hk => by rw [← htt]; exact plus_st hk
  have hsn : stF t s.rs.length = ptF c := by rw [← htt]; exact plus_stn hs hc a y
  have htq : t.q = s.q := by rw [← htt]; rfl
  have htf : t.fs = s.fs := by rw [← htt]; rfl
  rw [htt] at ht ⊢
  rw [decR_ok ht (by rw [htq]; exact ha) (by rw [htf]; exact hd), decR_ok hs ha hd]
  have hap : apQ t (stF t) d a s.rs.length = false := by
    unfold apQ
    rw [hsn, Bool.and_eq_false_iff]
    right
    rw [← Bool.not_eq_true, pt_has hf hc hd]
    exact hne
  have hA : dcA t (stF t) d a = dcA s (stF s) d a := by
    show apF (apQ t (stF t) d a) t.rs.length = apF (apQ s (stF s) d a) s.rs.length
    rw [hlen]
    show (if apQ t (stF t) d a s.rs.length then _ else _) = _
    rw [hap, if_neg (by decide)]
    refine apF_congr _ fun k hk => ?_
    unfold apQ
    rw [hold k hk, hso k hk]
  have hB : dcB t (stF t) d a = dcB s (stF s) d a := by
    unfold dcB
    rw [hA]
    refine List.filter_congr fun x hx => ?_
    obtain ⟨k, rfl, hk, -⟩ := dcA_mem.1 hx
    rw [Bool.eq_iff_iff, top_iff, top_iff, Int.toNat_natCast, hso k hk]
    constructor
    · intro h z hz
      obtain ⟨j, rfl, hj, -⟩ := dcA_mem.1 hz
      have := h _ hz
      rw [Int.toNat_natCast] at this ⊢
      rwa [hso j hj] at this
    · intro h z hz
      obtain ⟨j, rfl, hj, -⟩ := dcA_mem.1 hz
      have := h _ hz
      rw [Int.toNat_natCast] at this ⊢
      rwa [hso j hj]
  have hsay : ∀ x ∈ dcB s (stF s) d a, sayF t x = sayF s x := fun x hx => by
    obtain ⟨k, rfl, hk, -⟩ := dcB_mem.1 hx
    unfold sayF
    rw [Int.toNat_natCast, hold k hk]
  have h0 : dcB s (stF s) d a ≠ [] → (dcB s (stF s) d a).getD 0 0 ∈ dcB s (stF s) d a := fun h => by
    rw [List.getD_eq_getElem?_getD]
    have h1 : 0 < (dcB s (stF s) d a).length := List.length_pos_iff.2 h
    rw [List.getElem?_eq_getElem h1]
    exact List.getElem_mem h1
  rcases dcF_cases t (stF t) d a with ⟨h1, h2⟩ | ⟨h1, ⟨x, hx, h3⟩, h2⟩ | ⟨h1, h3, h2⟩ <;> rw [hB] at h1
  · rcases dcF_cases s (stF s) d a with ⟨g1, g2⟩ | ⟨g1, g3, g2⟩ | ⟨g1, g3, g2⟩
    · rw [h2, g2]
    · exact absurd h1 g1
    · exact absurd h1 g1
  · rw [hB] at hx h3
    rcases dcF_cases s (stF s) d a with ⟨g1, g2⟩ | ⟨g1, g3, g2⟩ | ⟨g1, g3, g2⟩
    · exact absurd g1 h1
    · rw [h2, g2]
    · rw [hsay x hx, hsay _ (h0 h1)] at h3
      exact absurd (g3 x hx) h3
  · rw [hB] at h3
    rcases dcF_cases s (stF s) d a with ⟨g1, g2⟩ | ⟨g1, ⟨x, hx, g3⟩, g2⟩ | ⟨g1, g3, g2⟩
    · exact absurd g1 h1
    · have := h3 x hx
      rw [hsay x hx, hsay _ (h0 h1)] at this
      exact absurd this g3
    · rw [h2, g2, hB, hsay _ (h0 h1)]
end Go.Proofs.YtmpegkojencbjaaDoor
/- School: own lists of tests, own lists of rules. -/
namespace Go.Proofs.YtmpegkojencbjaaDoor
open Go Go.RowKit Go.Shelf
set_option maxHeartbeats 4000000
set_option maxRecDepth 100000
theorem info_test : (Tryd.prog.info? 76).map (fun i => (i.zero, i.size, i.bytes)) = some (some (.agg #[.int .i64 0, .int .i64 0]), 2, 16) := by kernel_rfl
theorem info_rule : (Tryd.prog.info? 73).map (fun i => (i.zero, i.size, i.bytes)) = some (some (.agg #[.slice none 0 0, .int .i64 0, .int .i64 0]), 3, 40) := by kernel_rfl
def tsC (t : Int × Int) : List Value := [.int .i64 t.1, .int .i64 t.2]
def cellsQ (l : List (Int × Int)) : List Value := l.flatMap tsC
theorem cellsQ_append (l m : List (Int × Int)) : cellsQ (l ++ m) = cellsQ l ++ cellsQ m := by simp [cellsQ, List.flatMap_append]
theorem cellsQ_len (l : List (Int × Int)) : (cellsQ l).length = l.length * 2 := by
  induction l with
  | nil => rfl
  | cons x l ih => show (tsC x ++ cellsQ l).length = _; rw [List.length_append, ih, List.length_cons]; show 2 + _ = _; omega
theorem cellsQ_one (l : List (Int × Int)) : ∀ u ∈ cellsQ l, u.oneCell' = true := by
  intro u hu
  unfold cellsQ at hu
  obtain ⟨e, -, he⟩ := List.mem_flatMap.1 hu
  simp only [tsC, List.mem_cons, List.not_mem_nil, or_false] at he
  rcases he with rfl | rfl <;> rfl
theorem cellsQ_at (l : List (Int × Int)) : ∀ (k i : Nat), k < l.length → i < 2 → (cellsQ l)[k * 2 + i]? = some (tsV (l.getD k (0, 0)) i) := by
  induction l with
  | nil => intro k i hk; simp at hk
  | cons x l ih =>
    intro k i hk hi
    show (tsC x ++ cellsQ l)[k * 2 + i]? = _
    cases k with
    | zero => rcases (by omega : i = 0 ∨ i = 1) with rfl | rfl <;> rfl
    | succ k =>
      rw [List.getElem?_append_right (by show 2 ≤ _; omega)]
      have : (k + 1) * 2 + i - (tsC x).length = k * 2 + i := by show _ - 2 = _; omega
      rw [this, ih k i (by simpa using hk) hi]
      rfl
/-- an own list of tests -/
def OwnQ (W : World) (n0 : Nat) (v : Value) (l : List (Int × Int)) : Prop := W.ownsRow n0 76 2 v l.length (cellsQ l)
theorem OwnQ.ext {W W' : World} {n0 : Nat} {v : Value} {l : List (Int × Int)} (h : OwnQ W n0 v l) (hb : Below W.heap.size W W') : OwnQ W' n0 v l := ownBelow h hb
theorem OwnQ.made0 (W : World) : OwnQ (W.alloc (.cells #[] 76)) W.heap.size (.slice (some ⟨W.heap.size, 0, none⟩) 0 0) [] :=
  World.ownsRow_made W #[] 0 (Nat.le_refl _) (by unfold maxLen; omega) rfl
theorem OwnQ.pushes {W : World} {base : Nat} {v : Value} {l : List (Int × Int)} (h : OwnQ W base v l) (A : Option Addr) (c : Nat) (m : List (Int × Int)) (hA : TsR W W.heap.size A m) (hl : l.length + m.length ≤ 1000000) (hb : base ≤ W.heap.size) :
    ∃ v' w', (Builtin.append_ #[71, 71] 71 #[v, .slice A m.length c]).run Tryd.prog W = .ok v' w' ∧ OwnQ w' base v' (l ++ m) ∧ W.grownBy w' v.ownBlock := by
  obtain ⟨i0, hi, hz0, hz1, hz2⟩ := info_parts info_test
  cases A with
  | none =>
    have hm : m = [] := by
      rcases hm : m with _ | ⟨x, m⟩
      · rfl
      · exfalso
        obtain ⟨b, off, hA, -⟩ := hA (by rw [hm]; simp)
        cases hA
    subst hm
    refine ⟨v, W, run_append_none0 (P := Tryd.prog) _ _ 76 i0 2 Tryd.underlying71 hi v l.length c (cellsQ l) h, by simpa using h, World.grownBy.refl _ _⟩
  | some a =>
    have hcells : ∀ j u, (cellsQ m)[j]? = some u → W.cell? (a.add j) = some u := by
      intro j u hj
      have hlt : j < m.length * 2 := by
        have := (List.getElem?_eq_some_iff.1 hj).1
        rwa [cellsQ_len] at this
      obtain ⟨b, off, hA', -, hc⟩ := hA (by omega)
      injection hA' with hA'
      subst hA'
      have hk : j / 2 < m.length := by omega
      have hi4 : j % 2 < 2 := by omega
      have e1 : j / 2 * 2 + j % 2 = j := by omega
      have e2 := cellsQ_at m (j / 2) (j % 2) hk hi4
      rw [e1, hj] at e2
      have e3 := hc (j / 2) (j % 2) hk hi4
      rw [show off + j / 2 * 2 + j % 2 = off + j by omega, ← e2] at e3
      have e4 : ((⟨b, off, none⟩ : Addr).add j) = ⟨b, off + j, none⟩ := by simp [Addr.add]
      rw [e4]
      exact e3
    obtain ⟨v', w', hr, h2, h3, -⟩ := run_append_own (P := Tryd.prog) (w := W) base 71 71 76 i0 _ 2 16 Tryd.underlying71 hi hz0 hz1 hz2 rfl (by decide) v l.length (cellsQ l) h
      a m.length c (cellsQ m) (cellsQ_len m) hcells (cellsQ_one m) (by unfold maxLen; omega) (by omega) hb
    refine ⟨v', w', hr, ?_, h3⟩
    unfold OwnQ
    rw [cellsQ_append, List.length_append]
    exact h2
/-- an own list of tests is read -/
theorem OwnQ.tsR {W : World} {n0 : Nat} {A : Option Addr} {n c : Nat} {l : List (Int × Int)} (h : OwnQ W n0 (.slice A n c) l) : n = l.length ∧ TsR W W.heap.size A l := by
  obtain ⟨A', c', e⟩ := own_shape h
  injection e with e1 e2 e3
  subst e1
  refine ⟨e2, fun hn => ?_⟩
  rcases h.2 with ⟨h1, h2⟩ | ⟨g, cap, cur, h1, h2, h3, h4, h5, h6, h7⟩
  · omega
  · injection h1 with hA
    subst hA
    have hg := (World.ownsRow.lt h g rfl).2
    refine ⟨g, 0, rfl, hg, fun k i hk hi => ?_⟩
    have hc := World.ownsRow.cells h (g := g) rfl (k * 2 + i) _ (cellsQ_at l k i hk hi)
    have e1 : ((⟨g, 0, none⟩ : Addr).add (k * 2 + i)) = ⟨g, 0 + k * 2 + i, none⟩ := by simp [Addr.add]; omega
    rw [e1] at hc
    exact hc
-- rules: the values of a rule's three cells
abbrev R3 := Value × Int × Int
def r3C (r : R3) : List Value := [r.1, .int .i64 r.2.1, .int .i64 r.2.2]
def cells3 (l : List R3) : List Value := l.flatMap r3C
theorem cells3_append (l m : List R3) : cells3 (l ++ m) = cells3 l ++ cells3 m := by simp [cells3, List.flatMap_append]
theorem cells3_one (l : List R3) (h : ∀ r ∈ l, r.1.oneCell' = true) : ∀ u ∈ cells3 l, u.oneCell' = true := by
  intro u hu
  unfold cells3 at hu
  obtain ⟨e, hm, he⟩ := List.mem_flatMap.1 hu
  simp only [r3C, List.mem_cons, List.not_mem_nil, or_false] at he
  rcases he with rfl | rfl | rfl
  · exact h e hm
  · rfl
  · rfl
def r3V (r : R3) (i : Nat) : Value := if i = 0 then r.1 else if i = 1 then .int .i64 r.2.1 else .int .i64 r.2.2
def r30 : R3 := (.slice none 0 0, 0, 0)
theorem cells3_at (l : List R3) : ∀ (k i : Nat), k < l.length → i < 3 → (cells3 l)[k * 3 + i]? = some (r3V (l.getD k r30) i) := by
  induction l with
  | nil => intro k i hk; simp at hk
  | cons x l ih =>
    intro k i hk hi
    show (r3C x ++ cells3 l)[k * 3 + i]? = _
    cases k with
    | zero => rcases (by omega : i = 0 ∨ i = 1 ∨ i = 2) with rfl | rfl | rfl <;> rfl
    | succ k =>
      rw [List.getElem?_append_right (by show 3 ≤ _; omega)]
      have : (k + 1) * 3 + i - (r3C x).length = k * 3 + i := by show _ - 3 = _; omega
      rw [this, ih k i (by simpa using hk) hi]
      rfl
/-- an own list of rules -/
def Own3 (W : World) (n0 : Nat) (v : Value) (l : List R3) : Prop := W.ownsRow n0 73 3 v l.length (cells3 l)
theorem Own3.nil (W : World) (n0 : Nat) : Own3 W n0 (.slice none 0 0) [] := ⟨rfl, .inl ⟨rfl, rfl⟩⟩
theorem Own3.ext {W W' : World} {n0 : Nat} {v : Value} {l : List R3} (h : Own3 W n0 v l) (hb : Below W.heap.size W W') : Own3 W' n0 v l := ownBelow h hb
theorem cell_three_new (w : World) (a b c : Value) (t : TypeId) : ∀ (j : Nat) (u : Value), [a, b, c][j]? = some u → (w.alloc (.cells #[a, b, c] t)).cell? ((⟨w.heap.size, 0, none⟩ : Addr).add j) = some u := by
  intro j u h
  have hB := Blk.new w t #[a, b, c]
  match j, h with
  | 0, h => simpa [Addr.add] using (show (w.alloc (.cells #[a, b, c] t)).cell? ⟨w.heap.size, 0, none⟩ = some u by rw [hB.cell]; simpa using h)
  | 1, h => simpa [Addr.add] using (show (w.alloc (.cells #[a, b, c] t)).cell? ⟨w.heap.size, 1, none⟩ = some u by rw [hB.cell]; simpa using h)
  | 2, h => simpa [Addr.add] using (show (w.alloc (.cells #[a, b, c] t)).cell? ⟨w.heap.size, 2, none⟩ = some u by rw [hB.cell]; simpa using h)
  | j + 3, h => simp at h
theorem Own3.push {W : World} {base : Nat} {v : Value} {l : List R3} (h : Own3 W base v l) (r : R3) (h1 : r.1.oneCell' = true) (hl : l.length ≤ 1000000) (hb : base ≤ W.heap.size) :
    ∃ A c w', (Builtin.append_ #[45, 45] 45 #[v, .slice (some ⟨W.heap.size, 0, none⟩) 1 1]).run Tryd.prog (W.alloc (.cells #[r.1, .int .i64 r.2.1, .int .i64 r.2.2] 73)) = .ok (.slice A (l.length + 1) c) w' ∧
      Own3 w' base (.slice A (l.length + 1) c) (l ++ [r]) ∧ (W.alloc (.cells #[r.1, .int .i64 r.2.1, .int .i64 r.2.2] 73)).grownBy w' v.ownBlock := by
  obtain ⟨i0, hi, hz0, hz1, hz2⟩ := info_parts info_rule
  obtain ⟨v', w', hr, h2, h3, -⟩ := run_append_own (P := Tryd.prog) (w := W.alloc (.cells #[r.1, .int .i64 r.2.1, .int .i64 r.2.2] 73)) base 45 45 73 i0 _ 3 40 Tryd.underlying45 hi hz0 hz1 hz2 rfl (by decide) v l.length (cells3 l) (World.ownsRow.alloc h _)
    ⟨W.heap.size, 0, none⟩ 1 1 (r3C r) rfl (cell_three_new _ _ _ _ _) (by have := cells3_one [r] (fun x hx => by rw [List.mem_singleton.1 hx]; exact h1); simpa [cells3] using this) (by unfold maxLen; omega) (by omega) (by simp; omega)
  obtain ⟨A, c, rfl⟩ := own_shape h2
  refine ⟨A, c, w', hr, ?_, h3⟩
  unfold Own3
  rw [cells3_append, List.length_append]
  simpa [cells3] using h2
theorem Own3.row {W : World} {n0 : Nat} {A : Option Addr} {n c : Nat} {l : List R3} (h : Own3 W n0 (.slice A n c) l) : n = l.length ∧ ER W W.heap.size 3 A l.length fun k i => r3V (l.getD k r30) i := by
  obtain ⟨A', c', e⟩ := own_shape h
  injection e with e1 e2 e3
  subst e1
  refine ⟨e2, fun hn => ?_⟩
  rcases h.2 with ⟨h1, h2⟩ | ⟨g, cap, cur, h1, h2, h3, h4, h5, h6, h7⟩
  · omega
  · injection h1 with hA
    subst hA
    have hg := (World.ownsRow.lt h g rfl).2
    refine ⟨g, 0, rfl, hg, fun k i hk hi => ?_⟩
    have hc := World.ownsRow.cells h (g := g) rfl (k * 3 + i) _ (cells3_at l k i hk hi)
    have e1 : ((⟨g, 0, none⟩ : Addr).add (k * 3 + i)) = ⟨g, 0 + k * 3 + i, none⟩ := by simp [Addr.add]; omega
    rw [e1] at hc
    exact hc
end Go.Proofs.YtmpegkojencbjaaDoor
/- School: the law's copied. -/
namespace Go.Proofs.YtmpegkojencbjaaDoor
open Go Go.RowKit Go.Shelf
set_option maxHeartbeats 8000000
set_option maxRecDepth 100000
/-- what a loop of copied keeps -/
structure CpI (w W : World) (G R T : Nat) (d : Ad_) (s : Sch) (fa : Option Addr) (fc : Nat) (k : Nat) (V : Value) (L : List R3) : Prop where
  below : Below w.heap.size w W
  loG : w.heap.size ≤ G
  loR : w.heap.size ≤ R
  lo : w.heap.size ≤ T
  neG : G ≠ T
  neR : R ≠ T
  blkG : Blk W G 47 #[.slice d.fa s.fs.length d.fc, .int .i64 s.q, .slice d.ra s.rs.length d.rc]
  blkR : Blk W R 47 #[.slice none 0 0, .int .i64 0, .slice none 0 0]
  blk : Blk W T 47 #[.slice fa s.fs.length fc, .int .i64 s.q, V]
  fsO : OwnJ W w.heap.size (.slice fa s.fs.length fc) s.fs
  rsO : Own3 W w.heap.size V L
  len : L.length = k
  rl : ∀ j, j < k → ∃ a c, L.getD j r30 = (.slice a (s.rs.getD j r0).when_.length c, (s.rs.getD j r0).ask, (s.rs.getD j r0).say) ∧ OwnQ W w.heap.size (.slice a (s.rs.getD j r0).when_.length c) (s.rs.getD j r0).when_
section
variable {w W W' : World} {G R T : Nat} {d : Ad_} {s : Sch} {fa : Option Addr} {fc k : Nat} {V : Value} {L : List R3}
theorem CpI.ext (h : CpI w W G R T d s fa fc k V L) (hb : Below W.heap.size W W') : CpI w W' G R T d s fa fc k V L :=
  ⟨h.below.trans (hb.mono h.below.size), h.loG, h.loR, h.lo, h.neG, h.neR, h.blkG.ext hb, h.blkR.ext hb, h.blk.ext hb, h.fsO.ext hb, h.rsO.ext hb, h.len, fun j hj => by
    obtain ⟨a, c, h1, h2⟩ := h.rl j hj
    exact ⟨a, c, h1, h2.ext hb⟩⟩
theorem none_or {v : Value} : v.ownBlock = none ∨ v.ownBlock ≠ none := by
  cases v.ownBlock with
  | none => exact .inl rfl
  | some k => exact .inr (by simp)
theorem blk_kx {X g : Nat} {row : Option Nat} {t : TypeId} {cs : Array Value} (h : Blk W g t cs) (hk : KX W W' X row) (h1 : g ≠ X) (h2 : some g ≠ row) : Blk W' g t cs := (hk.block g h.lt h1 h2).trans h
/-- a rule goes to the list -/
theorem CpI.put (h : CpI w W G R T d s fa fc k V L) (a : Option Addr) (c : Nat) (hk : k ≤ 1000)
    (ho : OwnQ W w.heap.size (.slice a (s.rs.getD k r0).when_.length c) (s.rs.getD k r0).when_) :
    ∃ A c' w6, (Builtin.append_ #[45, 45] 45 #[V, .slice (some ⟨W.heap.size, 0, none⟩) 1 1]).run Tryd.prog (W.alloc (.cells #[.slice a (s.rs.getD k r0).when_.length c, .int .i64 (s.rs.getD k r0).ask, .int .i64 (s.rs.getD k r0).say] 73)) = .ok (.slice A (k + 1) c') w6 ∧
      Blk w6 T 47 #[.slice fa s.fs.length fc, .int .i64 s.q, V] ∧
      CpI w (w6.setCell ⟨T, 2, none⟩ (.slice A (k + 1) c')) G R T d s fa fc (k + 1) (.slice A (k + 1) c') (L ++ [(.slice a (s.rs.getD k r0).when_.length c, (s.rs.getD k r0).ask, (s.rs.getD k r0).say)]) := by
  obtain ⟨A, c', w6, hr, h6, hg⟩ := h.rsO.push (.slice a (s.rs.getD k r0).when_.length c, (s.rs.getD k r0).ask, (s.rs.getD k r0).say) rfl (by rw [h.len]; omega) h.below.size
  rw [h.len] at hr h6
  have hBA : Below W.heap.size W (W.alloc (.cells #[.slice a (s.rs.getD k r0).when_.length c, .int .i64 (s.rs.getD k r0).ask, .int .i64 (s.rs.getD k r0).say] 73)) := (Below.refl _ _).alloc (Nat.le_refl _) _
  have h5 := h.ext hBA
  have ho5 := ho.ext hBA
  dsimp only at hg hr
  have kx6 : KX (W.alloc (.cells #[.slice a (s.rs.getD k r0).when_.length c, .int .i64 (s.rs.getD k r0).ask, .int .i64 (s.rs.getD k r0).say] 73)) w6 T V.ownBlock := (KX.refl _ _ _).grown hg
  have kx7 := kx6.set 2 (.slice A (k + 1) c')
  have nT := own_blk_ne h5.rsO h5.blk (by decide)
  have nG := own_blk_ne h5.rsO h5.blkG (by decide)
  have nR := own_blk_ne h5.rsO h5.blkR (by decide)
  have b6 : Blk w6 T 47 #[.slice fa s.fs.length fc, .int .i64 s.q, V] := h5.blk.grown hg (fun e => nT e.symm)
  refine ⟨A, c', w6, hr, b6, ⟨?_, h.loG, h.loR, h.lo, h.neG, h.neR, blk_kx h5.blkG kx7 h.neG (fun e => nG e.symm), blk_kx h5.blkR kx7 h.neR (fun e => nR e.symm), ?_, ?_, ?_, ?_, fun j hj => ?_⟩⟩
  · exact (h5.below.grown hg h5.below.size (fun j hj => (World.ownsRow.lt h5.rsO j hj).1)).setCell h.lo _
  · exact b6.set_ 2 _
  · exact own_kx h5.fsO kx7 (own_blk_ne h5.fsO h5.blk (by decide)) (own_own_ne h5.fsO h5.rsO (by decide))
  · have kx8 : KX w6 (w6.setCell ⟨T, 2, none⟩ (.slice A (k + 1) c')) T none := (KX.refl w6 T none).set 2 _
    exact own_kx h6 kx8 (own_blk_ne h6 b6 (by decide)) none_or
  · rw [List.length_append, h.len]; rfl
  · by_cases e : j = k
    · subst e
      refine ⟨a, c, ?_, own_kx ho5 kx7 (own_blk_ne ho5 h5.blk (by decide)) (own_own_ne ho5 h5.rsO (by decide))⟩
      rw [List.getD_eq_getElem?_getD, List.getElem?_append_right (by rw [h.len]; exact Nat.le_refl _), h.len, Nat.sub_self]
      rfl
    · obtain ⟨a1, c1, e1, o1⟩ := h5.rl j (by omega)
      refine ⟨a1, c1, ?_, own_kx o1 kx7 (own_blk_ne o1 h5.blk (by decide)) (own_own_ne o1 h5.rsO (by decide))⟩
      rw [← e1, List.getD_eq_getElem?_getD, List.getElem?_append_left (by rw [h.len]; omega), List.getD_eq_getElem?_getD]
/-- what is copied is read as the same school -/
theorem CpI.read (h : CpI w W G R T d s fa fc s.rs.length V L) (w' : World) (hk : KX W w' R none) : ∃ d', V = .slice d'.ra s.rs.length d'.rc ∧ d'.fa = fa ∧ d'.fc = fc ∧ ScR w' w'.heap.size d' s := by
  obtain ⟨A, c, hV⟩ := own_shape h.rsO
  rw [h.len] at hV
  subst hV
  have hc : ∀ j, ∃ ac : Option Addr × Nat, j < s.rs.length → L.getD j r30 = (.slice ac.1 (s.rs.getD j r0).when_.length ac.2, (s.rs.getD j r0).ask, (s.rs.getD j r0).say) ∧ OwnQ W w.heap.size (.slice ac.1 (s.rs.getD j r0).when_.length ac.2) (s.rs.getD j r0).when_ := fun j => by
    by_cases hj : j < s.rs.length
    · obtain ⟨a, c, h1, h2⟩ := h.rl j hj
      exact ⟨(a, c), fun _ => ⟨h1, h2⟩⟩
    · exact ⟨(none, 0), fun h => absurd h hj⟩
  obtain ⟨f, hf⟩ := Classical.axiomOfChoice hc
  refine ⟨⟨fa, fc, A, c, fun j => (f j).1, fun j => (f j).2⟩, rfl, rfl, rfl, ?_⟩
  have o1 := own_kx h.fsO hk (own_blk_ne h.fsO h.blkR (by decide)) none_or
  have o2 := own_kx h.rsO hk (own_blk_ne h.rsO h.blkR (by decide)) none_or
  refine ⟨(OwnJ.li o1).2, ⟨?_, fun k hk2 => ?_⟩⟩
  · have h3 := (Own3.row o2).2
    rw [h.len] at h3
    intro hn
    obtain ⟨b, off, hA, hb, hc⟩ := h3 hn
    refine ⟨b, off, hA, hb, fun k i hk1 hi => ?_⟩
    rw [hc k i hk1 hi]
    show some (r3V (L.getD k r30) i) = some (rlV (s.rs.getD k r0) (f k).1 (f k).2 i)
    rw [(hf k hk1).1]
    rcases (by omega : i = 0 ∨ i = 1 ∨ i = 2) with rfl | rfl | rfl <;> rfl
  · have o3 := (hf k hk2).2
    exact (OwnQ.tsR (own_kx o3 hk (own_blk_ne o3 h.blkR (by decide)) none_or)).2
end
def CpPost (w : World) (s : Sch) (e : Ending) (w' : World) : Prop :=
  ∃ d', e = .returned (scV d' s) ∧ ScR w' w'.heap.size d' s ∧ Below w.heap.size w w'
end Go.Proofs.YtmpegkojencbjaaDoor
/- School: the law's copied, walked. -/
namespace Go.Proofs.YtmpegkojencbjaaDoor
open List renaming getElem_toArray → glA, getElem_cons_zero → glB, getElem_cons_succ → glC, setIfInBounds_toArray → glD, set_cons_zero → glE, set_cons_succ → glF
open Go Go.RowKit Go.Shelf
set_option maxHeartbeats 8000000
set_option maxRecDepth 100000
theorem OwnJ.low2 {W : World} {n0 n1 : Nat} {v : Value} {l : List Int} (h : OwnJ W n0 v l) (hb : n1 ≤ n0) : OwnJ W n1 v l := ⟨h.1, h.2.imp id fun ⟨g, cap, cur, h1, h2, h3⟩ => ⟨g, cap, cur, h1, Nat.le_trans hb h2, h3⟩⟩
theorem OwnQ.low {W : World} {n0 n1 : Nat} {v : Value} {l : List (Int × Int)} (h : OwnQ W n0 v l) (hb : n1 ≤ n0) : OwnQ W n1 v l := ⟨h.1, h.2.imp id fun ⟨g, cap, cur, h1, h2, h3⟩ => ⟨g, cap, cur, h1, Nat.le_trans hb h2, h3⟩⟩
theorem copied_any (d : Ad_) (s : Sch) (w : World) (hd : ScR w w.heap.size d s) (h1 : s.fs.length ≤ 1000) (h2 : s.rs.length ≤ 1000) (h3 : ∀ r ∈ s.rs, r.when_.length ≤ 1000) :
    Calls Tryd.prog 31 #[scV d s] w (CpPost w s) := by
  have HD := hide hd
  have HT := hide h3
  obtain ⟨nf, hf⟩ : ∃ n, s.fs.length = n := ⟨_, rfl⟩
  obtain ⟨nr, hr⟩ : ∃ n, s.rs.length = n := ⟨_, rfl⟩
  obtain ⟨Q, hQ⟩ : ∃ n, s.q = n := ⟨_, rfl⟩
  have HN := hide (And.intro hf (And.intro hr hQ))
  have HNU : Hid (∀ W, Below w.heap.size w W → Calls Tryd.prog 24 #[.slice d.fa nf d.fc] W fun e w' => ∃ v, e = .returned v ∧ OwnJ w' W.heap.size v s.fs ∧ Below W.heap.size W w') := hide fun W h => by
    have := numbers_any d.fa d.fc s.fs W (by omega) (hd.below h).fs
    rwa [hf] at this
  unfold scV
  rw [hf, hr, hQ]
  rw [hf] at h1
  rw [hr] at h2
  have G1 := (Blk.new w 47 #[.slice d.fa nf d.fc, .int .i64 Q, .slice d.ra nr d.rc]).alloc (.cells #[.slice none 0 0, .int .i64 0, .slice none 0 0] 47)
  have R1 : Blk ((w.alloc (.cells #[.slice d.fa nf d.fc, .int .i64 Q, .slice d.ra nr d.rc] 47)).alloc (.cells #[.slice none 0 0, .int .i64 0, .slice none 0 0] 47)) (w.heap.size + 1) 47 #[.slice none 0 0, .int .i64 0, .slice none 0 0] := by simpa using Blk.new (w.alloc (.cells #[.slice d.fa nf d.fc, .int .i64 Q, .slice d.ra nr d.rc] 47)) 47 #[.slice none 0 0, .int .i64 0, .slice none 0 0]
  have B2 : Hid (Below w.heap.size w ((w.alloc (.cells #[.slice d.fa nf d.fc, .int .i64 Q, .slice d.ra nr d.rc] 47)).alloc (.cells #[.slice none 0 0, .int .i64 0, .slice none 0 0] 47))) := hide (((Below.refl _ _).alloc (Nat.le_refl _) _).alloc (by simp) _)
  have HSZ : Hid (((w.alloc (.cells #[.slice d.fa nf d.fc, .int .i64 Q, .slice d.ra nr d.rc] 47)).alloc (.cells #[.slice none 0 0, .int .i64 0, .slice none 0 0] 47)).heap.size = w.heap.size + 2) := hide (by simp)
  clear hd hf hr hQ h3
  unfold CpPost
  go_enter Tryd.func31, Tryd.ntmps31
  go_upto_region 1 with fail
  generalize ((w.alloc (.cells #[.slice d.fa nf d.fc, .int .i64 Q, .slice d.ra nr d.rc] 47)).alloc (.cells #[.slice none 0 0, .int .i64 0, .slice none 0 0] 47)) = w2 at B2 G1 R1 HSZ ⊢
  obtain ⟨G, hG⟩ : ∃ x, w.heap.size = x := ⟨_, rfl⟩
  have HG := hide hG
  rw [hG] at G1 R1 ⊢
  have HG1 := hide G1
  have HR1 := hide R1
  clear hG G1 R1
  go_cut [3] (fun v w' => ∃ T fa fc, v = .pointer (some ⟨T, 0, none⟩) ∧ Hid (CpI w w' G (G + 1) T d s fa fc 0 (.slice none 0 0) []))
  case first =>
   as_aux_lemma =>
    have Bd := hide (B2.out.trans ((Below.refl w2.heap.size w2).drew.mono B2.out.size))
    have Gd := hide (HG1.out.ext (Below.refl w2.heap.size w2).drew)
    have Rd := hide (HR1.out.ext (Below.refl w2.heap.size w2).drew)
    have HSd : Hid (w2.drew.heap.size = w.heap.size + 2) := hide HSZ.out
    refine wp_region_J (fun W : World => (W.cell? ⟨G, 0, none⟩ = some (.slice d.fa nf d.fc) ∧ W.cell? ⟨G, 1, none⟩ = some (.int .i64 Q))) (by kernel_rfl) ?_
    generalize w2.drew = wd at Bd Gd Rd HSd ⊢
    clear B2 HG1 HR1 HSZ
    have HC : Hid (∀ W, Below wd.heap.size wd W → (W.cell? ⟨G, 0, none⟩ = some (.slice d.fa nf d.fc) ∧ W.cell? ⟨G, 1, none⟩ = some (.int .i64 Q))) := hide fun W h => by
      obtain ⟨-, q0, q1, q2, -⟩ := blk3 (Gd.out.ext h)
      exact ⟨q0, q1⟩
    refine wpAnyJ_take 0 (v := ?_) (by first | exact hF | exact wideFn) (HC.out _ (Below.refl _ _)) rfl (by kernel_rfl) (by kernel_rfl) (by kernel_rfl) (by kernel_rfl) rfl ?_ (by first | exact fun _ _ _ h => h | exact fun _ _ _ h => hQ2 _ _ _ _ _ h) ?_
    rotate_left
    · intro W hSW
      simp only [glA, glB, glC]
      (try dsimp only at hSW)
      go_simp
      with_reducible rfl
    (try simp only [glA, glB, glC, Act.put, glD, glE, glF])
    refine wpAnyJ_take 1 (v := ?_) (by first | exact hF | exact wideFn) (HC.out _ (Below.refl _ _)) rfl (by kernel_rfl) (by kernel_rfl) (by kernel_rfl) (by kernel_rfl) rfl ?_ (by first | exact fun _ _ _ h => h | exact fun _ _ _ h => hQ2 _ _ _ _ _ h) ?_
    rotate_left
    · intro W hSW
      simp only [glA, glB, glC]
      (try dsimp only at hSW)
      go_simp
      with_reducible rfl
    (try simp only [glA, glB, glC, Act.put, glD, glE, glF])
    refine wpAnyJ_take 3 (v := ?_) (by first | exact hF | exact wideFn) (HC.out _ (Below.refl _ _)) rfl (by kernel_rfl) (by kernel_rfl) (by kernel_rfl) (by kernel_rfl) rfl ?_ (by first | exact fun _ _ _ h => h | exact fun _ _ _ h => hQ2 _ _ _ _ _ h) ?_
    rotate_left
    · intro W hSW
      simp only [glA, glB, glC]
      (try dsimp only at hSW)
      go_simp
      with_reducible rfl
    (try simp only [glA, glB, glC, Act.put, glD, glE, glF])
    refine wpAnyJ_take 4 (v := ?_) (by first | exact hF | exact wideFn) (HC.out _ (Below.refl _ _)) rfl (by kernel_rfl) (by kernel_rfl) (by kernel_rfl) (by kernel_rfl) rfl ?_ (by first | exact fun _ _ _ h => h | exact fun _ _ _ h => hQ2 _ _ _ _ _ h) ?_
    rotate_left
    · intro W hSW
      simp only [glA, glB, glC]
      (try dsimp only at hSW)
      go_simp
      with_reducible rfl
    (try simp only [glA, glB, glC, Act.put, glD, glE, glF])
    refine wpAnyJ_two 2 6 rfl rfl (by kernel_rfl) (fun K hK => ?_) (fun K hK => ?_)
    · simp only [glA, glB, glC]
      go_simp
      refine ⟨trivial, rfl, ?_⟩
      refine (callsIn_wide.2 (HNU.out wd Bd.out)).mono ?_
      rintro e w3 ⟨v, rfl, ho, hb3⟩
      obtain ⟨A', c', rfl⟩ := own_shape ho
      dsimp only
      refine hK.out _ _ (fun _ => HC.out _ hb3) ?_
      clear hK K
      (try simp only [glA, glB, glC, Act.put, glD, glE, glF])
      rw [HN.out.1]
      have hf := HN.out.1
      refine wpAnyJ_take 5 (v := ?_) (by first | exact hF | exact wideFn) (HC.out _ hb3) rfl (by kernel_rfl) (by kernel_rfl) (by kernel_rfl) (by kernel_rfl) rfl ?_ (by first | exact fun _ _ _ h => h | exact fun _ _ _ h => hQ2 _ _ _ _ _ h) ?_
      rotate_left
      · intro W hSW
        simp only [glA, glB, glC]
        (try dsimp only at hSW)
        go_simp
        with_reducible rfl
      (try simp only [glA, glB, glC, Act.put, glD, glE, glF])
      refine wpAnyJ_one 6 rfl (by kernel_rfl) (fun K hK => ?_)
      simp only [glA, glB, glC]
      go_simp
      refine hK.out _ _ (fun _ => HC.out _ (hb3.alloc hb3.size _)) ?_
      clear hK K
      (try simp only [glA, glB, glC, Act.put, glD, glE, glF])
      refine wpAnyJ_one 7 rfl (by kernel_rfl) (fun K hK => ?_)
      simp only [glA, glB, glC]
      go_simp
      refine hK.out _ _ (fun _ => HC.out _ (hb3.alloc hb3.size _)) ?_
      clear hK K
      (try simp only [glA, glB, glC, Act.put, glD, glE, glF])
      refine wpAnyJ_done (by kernel_rfl) ?_
      go_wp2_with fail
      go_meet
      refine ⟨w3.heap.size, A', c', rfl, hide ?_⟩
      have z1 := HSd.out
      have z2 := hb3.size
      have z3 := HG.out
      refine ⟨(Bd.out.trans (hb3.mono Bd.out.size)).alloc (Nat.le_trans Bd.out.size hb3.size) _, Nat.le_of_eq HG.out, by omega, by omega, by omega, by omega, ?_, (Rd.out.ext hb3).alloc _, ?_, ?_, Own3.nil _ _, rfl, fun j hj => absurd hj (by omega)⟩
      · rw [HN.out.1, HN.out.2.1, HN.out.2.2]; exact (Gd.out.ext hb3).alloc _
      · rw [HN.out.1, HN.out.2.2]; exact Blk.new _ _ _
      · exact (ho.low2 Bd.out.size).ext ((Below.refl _ _).alloc (Nat.le_refl _) _)
    · simp only [glA, glB, glC]
      go_simp
      refine hK.out _ _ (fun _ => (HC.out _ ((Below.refl _ _).alloc (Nat.le_refl _) _))) ?_
      clear hK K
      (try simp only [glA, glB, glC, Act.put, glD, glE, glF])
      have Bz : Hid (Below wd.heap.size wd (wd.alloc (.cells #[.slice none 0 0, .int .i64 0, .slice none 0 0] 47))) := hide ((Below.refl _ _).alloc (Nat.le_refl _) _)
      have T1 := hide (Blk.new wd 47 #[.slice none 0 0, .int .i64 0, .slice none 0 0])
      have HSa : Hid ((wd.alloc (.cells #[.slice none 0 0, .int .i64 0, .slice none 0 0] 47)).heap.size = wd.heap.size + 1) := hide (by simp)
      obtain ⟨T, hT⟩ : ∃ x, wd.heap.size = x := ⟨_, rfl⟩
      have HTT := hide hT
      rw [hT] at T1 ⊢
      clear hT
      generalize (wd.alloc (.cells #[.slice none 0 0, .int .i64 0, .slice none 0 0] 47)) = wa at Bz T1 HSa ⊢
      refine wpAnyJ_one 2 rfl (by kernel_rfl) (fun K hK => ?_)
      simp only [glA, glB, glC]
      go_simp
      refine ⟨trivial, rfl, ?_⟩
      refine (callsIn_wide.2 (HNU.out wa (Bd.out.trans (Bz.out.mono Bd.out.size)))).mono ?_
      rintro e w3 ⟨v, rfl, ho, hb3⟩
      obtain ⟨A', c', rfl⟩ := own_shape ho
      dsimp only
      refine hK.out _ _ (fun _ => HC.out _ (Bz.out.trans (hb3.mono Bz.out.size))) ?_
      clear hK K
      (try simp only [glA, glB, glC, Act.put, glD, glE, glF])
      rw [HN.out.1]
      refine wpAnyJ_take 5 (v := ?_) (by first | exact hF | exact wideFn) (HC.out _ (Bz.out.trans (hb3.mono Bz.out.size))) rfl (by kernel_rfl) (by kernel_rfl) (by kernel_rfl) (by kernel_rfl) rfl ?_ (by first | exact fun _ _ _ h => h | exact fun _ _ _ h => hQ2 _ _ _ _ _ h) ?_
      rotate_left
      · intro W hSW
        simp only [glA, glB, glC]
        (try dsimp only at hSW)
        go_simp
        with_reducible rfl
      (try simp only [glA, glB, glC, Act.put, glD, glE, glF])
      obtain ⟨y9, y0, y1, y2, -⟩ := blk3 (T1.out.ext hb3)
      have yf0 := (T1.out.ext hb3).frozen 0
      have yf1 := (T1.out.ext hb3).frozen 1
      have yf2 := (T1.out.ext hb3).frozen 2
      have z1 := HSd.out
      have z2 := hb3.size
      have z3 := HG.out
      have z4 := HTT.out
      have z5 := HSa.out
      have hbS : Below wd.heap.size wd (((w3.setCell ⟨T, 0, none⟩ (.slice A' nf c')).setCell ⟨T, 1, none⟩ (.int .i64 Q)).setCell ⟨T, 2, none⟩ (.slice none 0 0)) := (((Bz.out.trans (hb3.mono Bz.out.size)).setCell (p := ⟨T, 0, none⟩) (by show wd.heap.size ≤ T; omega) _).setCell (p := ⟨T, 1, none⟩) (by show wd.heap.size ≤ T; omega) _).setCell (p := ⟨T, 2, none⟩) (by show wd.heap.size ≤ T; omega) _
      have HBS := hide hbS
      clear hbS z1 z2 z3 z4 z5
      refine wpAnyJ_one 7 rfl (by kernel_rfl) (fun K hK => ?_)
      simp only [glA, glB, glC]
      go_simp
      refine hK.out _ _ (fun _ => HC.out _ HBS.out) ?_
      clear hK K
      (try simp only [glA, glB, glC, Act.put, glD, glE, glF])
      refine wpAnyJ_done (by kernel_rfl) ?_
      go_wp2_with fail
      go_meet
      have z1 := HSd.out
      have z2 := hb3.size
      have z3 := HG.out
      have z4 := HTT.out
      have z5 := HSa.out
      refine ⟨T, A', c', rfl, hide ?_⟩
      refine ⟨Bd.out.trans (HBS.out.mono Bd.out.size), Nat.le_of_eq HG.out, by omega, by omega, by omega, by omega, ?_, ?_, ?_, ?_, Own3.nil _ _, rfl, fun j hj => absurd hj (by omega)⟩
      · rw [HN.out.1, HN.out.2.1, HN.out.2.2]; exact Gd.out.below HBS.out Gd.out.lt
      · exact Rd.out.below HBS.out Rd.out.lt
      · rw [HN.out.1, HN.out.2.2]; exact (T1.out.ext hb3).set3 _ _ _
      · have hlo : T < wa.heap.size := by omega
        rw [← HN.out.1]
        exact OwnJ.low2 (ownsRow_setCell_below (ownsRow_setCell_below (ownsRow_setCell_below ho (a := ⟨T, 0, none⟩) hlo _) (a := ⟨T, 1, none⟩) hlo _) (a := ⟨T, 2, none⟩) hlo _) (by omega)
  obtain ⟨T, fa, fc, rfl, HI⟩ := hcut
  clear B2 HG1 HR1 HSZ HNU
  go_wp2_with fail
  go_loopw [4] (fun i wr => ∃ (k : Nat) (V : Value) (L : List R3), k ≤ nr ∧ i = .int .i64 k ∧ Hid (CpI w wr G (G + 1) T d s fa fc k V L)) (fun i _ => nr - (intOf i).toNat)
  case atStart => exact ⟨0, _, _, Nat.zero_le _, rfl, HI⟩
  case round =>
    obtain ⟨k, V, L, hk, rfl, HK⟩ := hrel
    clear HI
    have hgb := HK.out.blkG
    rw [HN.out.1, HN.out.2.1, HN.out.2.2] at hgb
    obtain ⟨q9, q0, q1, q2, -⟩ := blk3 hgb
    clear hgb
    by_cases hlt : k < nr
    · -- BEGIN2
      have hlt' : (k : Int) < (nr : Int) := by omega
      have k0 : (0 : Int) ≤ (k : Int) := by omega
      have hst : IntKind.i64.wrap ((k : Int) + 1) = ((k + 1 : Nat) : Int) := by rw [IntWalk.i64_in _ (by omega)]; omega
      have hkl : k < s.rs.length := by rw [HN.out.2.1]; exact hlt
      obtain ⟨x, hx⟩ : ∃ x, s.rs.getD k r0 = x := ⟨_, rfl⟩
      have htl : x.when_.length ≤ 1000 := HT.out x (by rw [← hx, List.getD_eq_getElem?_getD, List.getElem?_eq_getElem hkl]; exact List.getElem_mem _)
      have htr := HD.out.rs.tests k hkl
      rw [hx] at htr
      obtain ⟨b, off, hra, hb, a0, a1, a2⟩ := HD.out.rs.at_ hkl hx
      rw [hra] at q2 ⊢
      have c0 := (HK.out.below.cell (p := ⟨b, off + k * 3, none⟩) hb).trans a0
      have c1 := (HK.out.below.cell (p := ⟨b, off + k * 3 + 1, none⟩) hb).trans a1
      have c2 := (HK.out.below.cell (p := ⟨b, off + k * 3 + 2, none⟩) hb).trans a2
      have HXX := hide hx
      have HTR := hide htr
      obtain ⟨ta, hta⟩ : ∃ y, d.ta k = y := ⟨_, rfl⟩
      obtain ⟨tc, htc⟩ : ∃ y, d.tc k = y := ⟨_, rfl⟩
      rw [hta] at HTR
      rw [hta, htc] at c0
      obtain ⟨tn, htn⟩ : ∃ y, x.when_.length = y := ⟨_, rfl⟩
      obtain ⟨ask, hask⟩ : ∃ y, x.ask = y := ⟨_, rfl⟩
      obtain ⟨say, hsay⟩ : ∃ y, x.say = y := ⟨_, rfl⟩
      rw [htn] at c0
      rw [hask] at c1
      rw [hsay] at c2
      have HV := hide (And.intro htn (And.intro hask hsay))
      clear hx htr a0 a1 a2 hta htc htn hask hsay
      go_upto_region 6 with fail
      have HB1 : Hid (Below wr.heap.size wr (wr.alloc (.cells #[.slice ta tn tc, .int .i64 ask, .int .i64 say] 73))) := hide ((Below.refl _ _).alloc (Nat.le_refl _) _)
      have E1 := hide (Blk.new wr 73 #[.slice ta tn tc, .int .i64 ask, .int .i64 say])
      have HZ1 : Hid ((wr.alloc (.cells #[.slice ta tn tc, .int .i64 ask, .int .i64 say] 73)).heap.size = wr.heap.size + 1) := hide (by simp)
      obtain ⟨g, hg⟩ : ∃ x, wr.heap.size = x := ⟨_, rfl⟩
      have HGG := hide hg
      rw [hg] at E1 ⊢
      clear hg c0 c1 c2 q9 q0 q1 q2
      generalize (wr.alloc (.cells #[.slice ta tn tc, .int .i64 ask, .int .i64 say] 73)) = w1 at HB1 E1 HZ1 ⊢
      go_cut [27] (fun v w' => ∃ A1 c1, Hid (CpI w w' G (G + 1) T d s fa fc k V L) ∧ Hid (Blk w' g 73 #[.slice A1 tn c1, .int .i64 ask, .int .i64 say]) ∧ Hid (OwnQ w' w.heap.size (.slice A1 tn c1) x.when_))
      case first =>
       as_aux_lemma =>
        have hBA : Below w1.heap.size w1 (w1.alloc (.cells #[] 76)) := (Below.refl _ _).alloc (Nat.le_refl _) _
        have hbw : Below w.heap.size w w1 := HK.out.below.trans (HB1.out.mono HK.out.below.size)
        obtain ⟨v', w3, hrun, ho, hgr⟩ := (OwnQ.made0 w1).pushes ta tc x.when_ ((ER.below HTR.out (hbw.trans (hBA.mono hbw.size)) (Nat.le_refl _)).more (Nat.le_trans hbw.size hBA.size)) (by simp; omega) hBA.size
        rw [List.nil_append] at ho
        rw [HV.out.1] at hrun
        obtain ⟨A1, c1, hv⟩ := own_shape ho
        rw [HV.out.1] at hv
        subst hv
        have hb3 : Below w1.heap.size w1 w3 := hBA.grown hgr hBA.size (fun k hk => (World.ownsRow.lt (OwnQ.made0 w1) k hk).1)
        have E3 := hide (E1.out.ext hb3)
        have HRUN := hide hrun
        have HO := hide ho
        have HB3 := hide (HB1.out.trans (hb3.mono HB1.out.size))
        obtain ⟨f1, f2, f3, f4, f5⟩ := blk3 E1.out
        obtain ⟨e1, e2, e3, e4, e5⟩ := blk3 E3.out
        have ef := E3.out.frozen 0
        clear hrun ho hgr hb3 hBA hbw e5 f5
        go_wp2_with (at_builtin; refine wpList_append_run rfl (.tmp 24) (.tmp 26) 71 rfl rfl rfl HRUN.out ?_)
        go_meet
        have z1 := HZ1.out
        have z2 := HGG.out
        have hbs : Below wr.heap.size wr (w3.setCell ⟨g, 0, none⟩ (.slice A1 tn c1)) := HB3.out.setCell (p := ⟨g, 0, none⟩) (by show wr.heap.size ≤ g; omega) _
        refine ⟨A1, c1, hide (HK.out.ext hbs), hide (E3.out.set_ 0 _), hide ?_⟩
        have := ownsRow_setCell_below HO.out (a := ⟨g, 0, none⟩) (show g < w1.heap.size by omega) (.slice A1 tn c1)
        exact OwnQ.low this (by have := HK.out.below.size; omega)
      obtain ⟨A1, c1, HI2, HE2, HO2⟩ := hcut
      clear HB1 E1 HZ1 HK HGG
      obtain ⟨AV, cV, hV⟩ := own_shape HI2.out.rsO
      rw [HI2.out.len] at hV
      subst hV
      obtain ⟨A', c', w6, hrun, hb6, hput⟩ := HI2.out.put A1 c1 (by omega) (by rw [HXX.out, HV.out.1]; exact HO2.out)
      rw [HXX.out, HV.out.1, HV.out.2.1, HV.out.2.2] at hrun
      have htb := HI2.out.blk
      rw [HN.out.1, HN.out.2.2] at htb
      obtain ⟨t1, t2, t3, t4, t5⟩ := blk3 htb
      obtain ⟨e1, e2, e3, e4, e5⟩ := blk3 HE2.out
      rw [HN.out.1, HN.out.2.2] at hb6
      obtain ⟨f1, f2, f3, f4, f5⟩ := blk3 hb6
      have ff := hb6.frozen 2
      have HRUN := hide hrun
      have HPUT := hide hput
      clear hrun hput htb hb6 t5 e5 f5 HI2 HE2 HO2
      go_wp2_with (at_builtin; refine wpList_append_run rfl (.tmp 30) (.tmp 32) 45 rfl rfl rfl HRUN.out ?_)
      go_roundw
      case rel => exact ⟨k + 1, _, _, by omega, by go_num, HPUT⟩
      case measure => simp [intOf]; omega
      -- END2
    · obtain rfl : k = nr := by omega
      have hnl : ¬ (k : Int) < (k : Int) := by omega
      obtain ⟨AV, cV, hV⟩ := own_shape HK.out.rsO
      rw [HK.out.len] at hV
      subst hV
      have htb := HK.out.blk
      rw [HN.out.1, HN.out.2.2] at htb
      obtain ⟨t1, t2, t3, t4, -⟩ := blk3 htb
      obtain ⟨r1, r2, r3, r4, -⟩ := blk3 HK.out.blkR
      have rf0 := HK.out.blkR.frozen 0
      have rf1 := HK.out.blkR.frozen 1
      have rf2 := HK.out.blkR.frozen 2
      clear htb
      go_wp2_with fail
      have hw8 := HK.out.blkR.set3 (.slice fa nf fc) (.int .i64 Q) (.slice AV k cV)
      have kx : KX wr (((wr.setCell ⟨G + 1, 0, none⟩ (.slice fa nf fc)).setCell ⟨G + 1, 1, none⟩ (.int .i64 Q)).setCell ⟨G + 1, 2, none⟩ (.slice AV k cV)) (G + 1) none := (((KX.refl wr (G + 1) none).set 0 _).set 1 _).set 2 _
      have hbf : Below w.heap.size w (((wr.setCell ⟨G + 1, 0, none⟩ (.slice fa nf fc)).setCell ⟨G + 1, 1, none⟩ (.int .i64 Q)).setCell ⟨G + 1, 2, none⟩ (.slice AV k cV)) := ((HK.out.below.setCell (p := ⟨G + 1, 0, none⟩) HK.out.loR _).setCell (p := ⟨G + 1, 1, none⟩) HK.out.loR _).setCell (p := ⟨G + 1, 2, none⟩) HK.out.loR _
      have hk' : CpI w wr G (G + 1) T d s fa fc s.rs.length (.slice AV k cV) L := by rw [HN.out.2.1]; exact HK.out
      obtain ⟨d', hd1, hd2, hd3, hd4⟩ := hk'.read _ kx
      injection hd1 with z1 z2 z3
      have hv : scV d' s = .agg #[.slice fa nf fc, .int .i64 Q, .slice AV k cV] := by
        unfold scV
        rw [hd2, hd3, HN.out.1, HN.out.2.1, HN.out.2.2, z1, z3]
      generalize (((wr.setCell ⟨G + 1, 0, none⟩ (.slice fa nf fc)).setCell ⟨G + 1, 1, none⟩ (.int .i64 Q)).setCell ⟨G + 1, 2, none⟩ (.slice AV k cV)) = w8 at hw8 hbf hd4 ⊢
      obtain ⟨-, q0', q1', q2', -⟩ := blk3 hw8
      refine bodyPost_ret (v := .agg #[.slice fa nf fc, .int .i64 Q, .slice AV k cV]) (by simp [results, Tryd.results31, go_sem, q0', q1', q2']) rfl ⟨d', by rw [hv], hd4, hbf⟩
end Go.Proofs.YtmpegkojencbjaaDoor
/- School: the reference's Decide. -/
namespace Go.Proofs.YtmpegkojencbjaaDoor
open List renaming getElem_toArray → glA, getElem_cons_zero → glB, getElem_cons_succ → glC, setIfInBounds_toArray → glD, set_cons_zero → glE, set_cons_succ → glF
open Go Go.RowKit Go.Shelf
set_option maxHeartbeats 16000000
set_option maxRecDepth 100000
/-- rules that are asked, apply, and are not beaten -/
def byQ (s : Sch) (c : List Int) (q : Int) (i : Nat) : Bool := asB s c q i && tpF (fun k => ((s.rs.getD k r0).ask == q) && (spP s k i && apB (s.rs.getD k r0) c)) s.rs.length
theorem apF_succ (Q : Nat → Bool) (n : Nat) : apF Q (n + 1) = if Q n then apF Q n ++ [(n : Int)] else apF Q n := rfl
theorem dcF_nil {s : Sch} {st : Nat → Nat → Nat} {c : List Int} {q : Int} {l : List Int} (e : dcB s st c q = l) (h : l.length = 0) : dcF s st c q = (0, 7, []) := by
  unfold dcF
  rw [e, if_pos h]
theorem dcF_clash {s : Sch} {st : Nat → Nat → Nat} {c : List Int} {q : Int} {l : List Int} (e : dcB s st c q = l) {k : Nat} (hk : k < l.length) (h : sayF s (l.getD k 0) ≠ sayF s (l.getD 0 0)) : dcF s st c q = (0, 110, []) := by
  unfold dcF
  rw [e, if_neg (by omega), if_pos]
  refine clB_iff.2 ⟨_, ?_, h⟩
  rw [List.getD_eq_getElem?_getD, List.getElem?_eq_getElem hk]
  exact List.getElem_mem hk
theorem dcF_says {s : Sch} {st : Nat → Nat → Nat} {c : List Int} {q : Int} {l : List Int} (e : dcB s st c q = l) (hl : 0 < l.length) (h : ∀ k, k < l.length → sayF s (l.getD k 0) = sayF s (l.getD 0 0)) : dcF s st c q = (sayF s (l.getD 0 0), 0, l) := by
  unfold dcF
  rw [e, if_neg (by omega), if_neg]
  · rfl
  · intro h2
    obtain ⟨x, hx, h3⟩ := clB_iff.1 h2
    obtain ⟨k, hk, rfl⟩ := List.getElem_of_mem hx
    have := h k hk
    have e : l.getD k 0 = l[k] := by rw [List.getD_eq_getElem?_getD, List.getElem?_eq_getElem hk]; rfl
    rw [e] at this
    exact h3 this
theorem ownJ_cells {W : World} {base n c : Nat} {A : Option Addr} {l : List Int} (h : OwnJ W base (.slice A n c) l) (hl : l.length = n) (hn : 0 < n) :
    ∃ g, A = some ⟨g, 0, none⟩ ∧ g < W.heap.size ∧ ∀ j, j < n → W.cell? ⟨g, j, none⟩ = some (.int .i64 (l.getD j 0)) := by
  subst hl
  have key : ∀ j, j < l.length → ∃ g, A = some ⟨g, 0, none⟩ ∧ g < W.heap.size ∧ base ≤ g ∧ W.cell? ⟨g, j, none⟩ = some (.int .i64 (l.getD j 0)) := fun j hj => own_one h (by
    unfold intJ
    rw [List.getElem?_map, List.getD_eq_getElem?_getD, List.getElem?_eq_getElem hj]
    rfl)
  obtain ⟨g, h1, h2, -, -⟩ := key 0 hn
  refine ⟨g, h1, h2, fun j hj => ?_⟩
  obtain ⟨g', h3, -, -, h4⟩ := key j hj
  rw [h1] at h3
  injection h3 with h3
  injection h3 with h3
  rw [h3]
  exact h4
theorem refDecide_any (d : Ad_) (s : Sch) (TA A : Option Addr) (tc cc : Nat) (c : List Int) (q : Int) (w : World) (hd : ScR w w.heap.size d s) (hs : schB s = true) (hi : ScI s) (hc : icB s.fs c = true) (hA : LI w w.heap.size A c) (hT : ∃ b, TbB w b (.slice TA s.rs.length tc) s.rs.length s.rs.length (spP s)) :
    Calls Tryd.prog 36 #[scV d s, .slice TA s.rs.length tc, .slice A s.fs.length cc, .int .i64 q] w (DePost w (dcF s (stF s) c q)) := by
  have hok := schB_ok hs
  have HD := hide hd
  have HAP : Hid (∀ i, i < s.rs.length → ∀ W, Below w.heap.size w W → Calls Tryd.prog 67 #[.agg #[.slice (d.ta i) (s.rs.getD i r0).when_.length (d.tc i), .int .i64 (s.rs.getD i r0).ask, .int .i64 (s.rs.getD i r0).say], .slice A s.fs.length cc] W (fun e w' => e = .returned (.bool (apB (s.rs.getD i r0) c)) ∧ Below W.heap.size W w')) :=
    hide fun i hin W hB => ap_rule hd hs hi hin hc W hB A cc ((ER.below hA hB (Nat.le_refl _)).more hB.size)
  have HTB : Hid (∀ W, Below w.heap.size w W → ∃ b, TbB W b (.slice TA s.rs.length tc) s.rs.length s.rs.length (spP s)) := hide fun W h => by
    obtain ⟨b, h2⟩ := hT
    exact ⟨b, h2.ext h⟩
  have HBY : Hid (apF (byQ s c q) s.rs.length = dcB s (stF s) c q) := hide (by_eq hs hi hc q)
  obtain ⟨nf, hf⟩ : ∃ n, s.fs.length = n := ⟨_, rfl⟩
  obtain ⟨nr, hr⟩ : ∃ n, s.rs.length = n := ⟨_, rfl⟩
  obtain ⟨Q, hQ⟩ : ∃ n, s.q = n := ⟨_, rfl⟩
  obtain ⟨fa, hfa⟩ : ∃ x, d.fa = x := ⟨_, rfl⟩
  obtain ⟨ra, hra⟩ : ∃ x, d.ra = x := ⟨_, rfl⟩
  obtain ⟨R, hR⟩ : ∃ x, dcF s (stF s) c q = x := ⟨_, rfl⟩
  have HN := hide (And.intro hf hr)
  have HR := hide hR
  have hnr := hok.nr
  unfold scV
  rw [hf] at HAP
  rw [hf, hr, hQ, hfa, hra, hR]
  rw [hr] at hnr HAP HTB HBY
  have HRA := hide hra
  have HB0 := hide ((Below.refl w.heap.size w).alloc (Nat.le_refl _) (.cells #[.slice fa nf d.fc, .int .i64 Q, .slice ra nr d.rc] 47))
  have G1 := Blk.new w 47 #[.slice fa nf d.fc, .int .i64 Q, .slice ra nr d.rc]
  have HNP := hide (apF_len (byQ s c q))
  have HME : Hid (∀ n x, x ∈ apF (byQ s c q) n → ∃ k : Nat, x = (k : Int) ∧ k < n) := hide (fun n x hx => by
    obtain ⟨k, h1, h2, -⟩ := apF_mem _ n x hx
    exact ⟨k, h1, h2⟩)
  clear hd hf hr hQ hok hs hfa hra hi hc hA hT hR
  go_enter Tryd.func36, Tryd.ntmps36
  go_upto_region 1 with fail
  generalize (w.alloc (.cells #[.slice fa nf d.fc, .int .i64 Q, .slice ra nr d.rc] 47)) = w1 at HB0 G1 ⊢
  generalize w.heap.size = G at G1 ⊢
  have HG1 := hide G1
  clear G1
  go_upto_region 2 with fail
  have HO0 := hide (OwnJ.made0 w1)
  have HB2 : Hid (Below w1.heap.size w1 (w1.alloc (.cells #[] 3))) := hide ((Below.refl _ _).alloc (Nat.le_refl _) _)
  generalize (w1.alloc (.cells #[] 3)) = w2 at HO0 HB2 ⊢
  obtain ⟨O0, hO0⟩ : ∃ x, Value.slice (some ⟨w1.heap.size, 0, none⟩) 0 0 = x := ⟨_, rfl⟩
  rw [hO0] at HO0 ⊢
  clear hO0
  go_wp2_with fail
  go_loopw [11, 12] (fun v11 v12 wr => ∃ i : Nat, i ≤ nr ∧ v12 = .int .i64 i ∧ Hid (OwnJ wr w1.heap.size v11 (apF (byQ s c q) i)) ∧ Hid (Below w1.heap.size w1 wr)) (fun _ v12 _ => nr - (intOf v12).toNat)
  case atStart => exact ⟨0, Nat.zero_le _, rfl, HO0, HB2⟩
  case round =>
    obtain ⟨i, hin, rfl, HO, HB⟩ := hrel
    clear HO0 HB2
    obtain ⟨OA, oc, hv⟩ := own_shape HO.out
    subst hv
    obtain ⟨on, hon⟩ : ∃ n, (apF (byQ s c q) i).length = n := ⟨_, rfl⟩
    rw [hon] at HO ⊢
    have HON := hide hon
    have hon12 : on ≤ 12 := by have := HNP.out i; omega
    clear hon
    obtain ⟨-, -, -, g2, -⟩ := blk3 (HG1.out.ext HB.out)
    have HBG := hide (HB0.out.trans (HB.out.mono HB0.out.size))
    by_cases hlt : i < nr
    · -- BEGIN1
      have hlt' : (i : Int) < (nr : Int) := by omega
      have i0 : (0 : Int) ≤ (i : Int) := by omega
      have hsti : IntKind.i64.wrap ((i : Int) + 1) = ((i + 1 : Nat) : Int) := by rw [IntWalk.i64_in _ (by omega)]; omega
      have hi_ : i < s.rs.length := by rw [HN.out.2]; exact hlt
      obtain ⟨r1, hr1⟩ : ∃ r, s.rs.getD i r0 = r := ⟨_, rfl⟩
      obtain ⟨rb, ro, hra, hrb, a0, a1, a2⟩ := HD.out.rs.at_ hi_ hr1
      rw [HRA.out] at hra
      subst hra
      obtain ⟨ta1, hta1⟩ : ∃ x, d.ta i = x := ⟨_, rfl⟩
      obtain ⟨tc1, htc1⟩ : ∃ x, d.tc i = x := ⟨_, rfl⟩
      obtain ⟨nt1, hnt1⟩ : ∃ x, r1.when_.length = x := ⟨_, rfl⟩
      obtain ⟨as1, has1⟩ : ∃ x, r1.ask = x := ⟨_, rfl⟩
      obtain ⟨sa1, hsa1⟩ : ∃ x, r1.say = x := ⟨_, rfl⟩
      have HA1 := hide (HAP.out i hlt)
      rw [hr1, hta1, htc1, hnt1, has1, hsa1] at HA1
      rw [hta1, hnt1, htc1] at a0
      rw [has1] at a1
      rw [hsa1] at a2
      have c0 := (HBG.out.cell (p := ⟨rb, ro + i * 3, none⟩) hrb).trans a0
      have c1 := (HBG.out.cell (p := ⟨rb, ro + i * 3 + 1, none⟩) hrb).trans a1
      have c2 := (HBG.out.cell (p := ⟨rb, ro + i * 3 + 2, none⟩) hrb).trans a2
      have hasb : asB s c q i = ((as1 == q) && apB r1 c) := by unfold asB; rw [hr1, has1]
      obtain ⟨b1, hb1⟩ : ∃ x, apB r1 c = x := ⟨_, rfl⟩
      rw [hb1] at HA1 hasb
      have HAS := hide hasb
      have HRB := hide hrb
      clear hr1 hrb a0 a1 a2 hta1 htc1 hnt1 has1 hsa1 hi_ hasb hb1
      by_cases hq : as1 = q
      rotate_left
      · -- BEGIN7
        have e1 : (as1 == q) = false := by rw [beq_eq_false_iff_ne]; exact hq
        have hz : apF (byQ s c q) (i + 1) = apF (byQ s c q) i := by
          rw [apF_succ, if_neg]
          unfold byQ
          rw [HAS.out, e1]
          simp
        have HZ := hide hz
        clear hz HA1 e1
        go_wp2_with fail
        go_roundw
        case rel => exact ⟨i + 1, by omega, by go_num, by rw [HZ.out]; exact HO, HB⟩
        case measure => simp [intOf]; omega
        -- END7
      rw [show (as1 == q) = true from by rw [hq]; exact beq_self_eq_true _, Bool.true_and] at HAS
      obtain rfl : q = as1 := hq.symm
      rcases b1 with _ | _
      · -- BEGIN8
        have hz : apF (byQ s c q) (i + 1) = apF (byQ s c q) i := by
          rw [apF_succ, if_neg]
          unfold byQ
          rw [HAS.out]
          simp
        have HZ := hide hz
        clear hz
        go_wp2_with fail
        refine (HA1.out wr HBG.out).mono ?_
        rintro e w5 ⟨rfl, hb5⟩
        have HB5 := hide (HB.out.trans (hb5.mono HB.out.size))
        have HO5 := hide (OwnJ.ext HO.out hb5)
        clear hb5
        go_wp2_with fail
        go_roundw
        case rel => exact ⟨i + 1, by omega, by go_num, by rw [HZ.out]; exact HO5, HB5⟩
        case measure => simp [intOf]; omega
        -- END8
      -- BEGIN9
      go_wp2_with fail
      refine (HA1.out wr HBG.out).mono ?_
      rintro e w5 ⟨rfl, hb5⟩
      have HB5 := hide (HB.out.trans (hb5.mono HB.out.size))
      have HO5 := hide (OwnJ.ext HO.out hb5)
      clear hb5 c0 c1 c2 g2 HBG HB HO HA1
      obtain ⟨tp, htp⟩ : ∃ f : Nat → Bool, (fun k => ((s.rs.getD k r0).ask == q) && (spP s k i && apB (s.rs.getD k r0) c)) = f := ⟨_, rfl⟩
      have HTP := hide htp
      have hby : byQ s c q i = tpF tp nr := by
        unfold byQ
        rw [HAS.out, htp, HN.out.2, Bool.true_and]
      have HBQ := hide hby
      have HT0 : Hid (tpF tp 0 = true) := hide rfl
      clear htp hby
      go_wp2_with fail
      go_loopw [13, 14] (fun v13 v14 wr => ∃ k : Nat, k ≤ nr ∧ v13 = .bool (tpF tp k) ∧ v14 = .int .i64 k ∧ Hid (OwnJ wr w1.heap.size (.slice OA on oc) (apF (byQ s c q) i)) ∧ Hid (Below w1.heap.size w1 wr)) (fun _ v14 _ => nr - (intOf v14).toNat)
      case atStart => exact ⟨0, Nat.zero_le _, by rw [HT0.out], rfl, HO5, HB5⟩
      case round =>
        obtain ⟨k, hk, rfl, rfl, HO, HB⟩ := hrel
        clear HO5 HB5
        obtain ⟨-, -, -, g2, -⟩ := blk3 (HG1.out.ext HB.out)
        have HBG := hide (HB0.out.trans (HB.out.mono HB0.out.size))
        obtain ⟨tk, htk⟩ : ∃ x, tpF tp k = x := ⟨_, rfl⟩
        have HTK := hide htk
        rw [htk]
        clear htk
        by_cases hkl : k < nr
        · -- BEGIN2
          have hkl' : (k : Int) < (nr : Int) := by omega
          have k0 : (0 : Int) ≤ (k : Int) := by omega
          have hstk : IntKind.i64.wrap ((k : Int) + 1) = ((k + 1 : Nat) : Int) := by rw [IntWalk.i64_in _ (by omega)]; omega
          rcases tk with _ | _
          · have HNX : Hid (tpF tp (k + 1) = false) := hide (by show (tpF tp k && _) = false; rw [HTK.out]; rfl)
            go_wp2_with fail
            go_roundw
            case rel => exact ⟨k + 1, by omega, by rw [HNX.out], by go_num, HO, HB⟩
            case measure => simp [intOf]; omega
          have hk_ : k < s.rs.length := by rw [HN.out.2]; exact hkl
          obtain ⟨r2, hr2⟩ : ∃ r, s.rs.getD k r0 = r := ⟨_, rfl⟩
          obtain ⟨rb', ro', hra, hrb, a0, a1, a2⟩ := HD.out.rs.at_ hk_ hr2
          rw [HRA.out] at hra
          injection hra with hra
          injection hra with z1 z2
          subst z1 z2
          obtain ⟨ta2, hta2⟩ : ∃ x, d.ta k = x := ⟨_, rfl⟩
          obtain ⟨tc2, htc2⟩ : ∃ x, d.tc k = x := ⟨_, rfl⟩
          obtain ⟨nt2, hnt2⟩ : ∃ x, r2.when_.length = x := ⟨_, rfl⟩
          obtain ⟨as2, has2⟩ : ∃ x, r2.ask = x := ⟨_, rfl⟩
          obtain ⟨sa2, hsa2⟩ : ∃ x, r2.say = x := ⟨_, rfl⟩
          have HA2 := hide (HAP.out k hkl)
          rw [hr2, hta2, htc2, hnt2, has2, hsa2] at HA2
          rw [hta2, hnt2, htc2] at a0
          rw [has2] at a1
          rw [hsa2] at a2
          have c0 := (HBG.out.cell (p := ⟨rb, ro + k * 3, none⟩) hrb).trans a0
          have c1 := (HBG.out.cell (p := ⟨rb, ro + k * 3 + 1, none⟩) hrb).trans a1
          have c2 := (HBG.out.cell (p := ⟨rb, ro + k * 3 + 2, none⟩) hrb).trans a2
          obtain ⟨b2, hb2⟩ : ∃ x, apB r2 c = x := ⟨_, rfl⟩
          obtain ⟨b, hTb⟩ := HTB.out wr HBG.out
          obtain ⟨tg, tr, tz, e1', e2, e3, e4, e5⟩ := hTb.at_ hkl hlt
          subst e1'
          obtain ⟨sp, hsp⟩ : ∃ x, spP s k i = x := ⟨_, rfl⟩
          rw [hsp] at e5
          have HNX : Hid (tpF tp (k + 1) = !((as2 == q) && (sp && b2))) := hide (by
            show (tpF tp k && !(tp k)) = _
            rw [HTK.out, ← HTP.out, Bool.true_and]
            dsimp only
            rw [hr2, has2, hsp, hb2])
          rw [hb2] at HA2
          clear hr2 hrb a0 a1 a2 hta2 htc2 hnt2 has2 hsa2 hk_ hsp hb2 hTb
          by_cases hq : as2 = q
          rotate_left
          · have e1 : (as2 == q) = false := by rw [beq_eq_false_iff_ne]; exact hq
            rw [e1] at HNX
            clear hq HA2
            go_wp2_with fail
            go_roundw
            case rel => exact ⟨k + 1, by omega, by rw [HNX.out]; rfl, by go_num, HO, HB⟩
            case measure => simp [intOf]; omega
          rw [show (as2 == q) = true from by rw [hq]; exact beq_self_eq_true _, Bool.true_and] at HNX
          obtain rfl : q = as2 := hq.symm
          rcases sp with _ | _
          · clear HA2
            go_wp2_with fail
            go_roundw
            case rel => exact ⟨k + 1, by omega, by rw [HNX.out]; rfl, by go_num, HO, HB⟩
            case measure => simp [intOf]; omega
          go_wp2_with fail
          refine (HA2.out wr HBG.out).mono ?_
          rintro e w6 ⟨rfl, hb6⟩
          have HB6 := hide (HB.out.trans (hb6.mono HB.out.size))
          have HO6 := hide (OwnJ.ext HO.out hb6)
          clear hb6
          rcases b2 with _ | _
          all_goals
            go_wp2_with fail
            go_roundw
            case rel => exact ⟨k + 1, by omega, by rw [HNX.out]; rfl, by go_num, HO6, HB6⟩
            case measure => simp [intOf]; omega
          -- END2
        · -- BEGIN3
          obtain rfl : k = nr := by omega
          have hnl : ¬ (k : Int) < (k : Int) := by omega
          rw [HTK.out] at HBQ
          rcases tk with _ | _
          · have hz : apF (byQ s c q) (i + 1) = apF (byQ s c q) i := by rw [apF_succ, HBQ.out, if_neg (by decide)]
            have HZ := hide hz
            clear hz
            go_wp2_with fail
            go_roundw
            case rel => exact ⟨i + 1, by omega, by go_num, by rw [HZ.out]; exact HO, HB⟩
            case measure => simp [intOf]; omega
          · have hz : apF (byQ s c q) (i + 1) = apF (byQ s c q) i ++ [(i : Int)] := by rw [apF_succ, HBQ.out, if_pos rfl]
            have HZ := hide hz
            obtain ⟨v6, w6, hrun, ho6, hg6⟩ := HO.out.push (i : Int) (by rw [HON.out]; omega) HB.out.size
            have HB6 := hide ((HB.out.alloc HB.out.size (.cells #[.int .i64 (i : Int)] 3)).grown hg6 (Nat.le_trans HB.out.size (by simp)) (fun j hj => (World.ownsRow.lt HO.out j hj).1))
            have HO6 := hide ho6
            have HRUN := hide hrun
            clear hrun ho6 hg6 hz
            go_wp2_with (at_builtin; refine wpList_append_run rfl (.tmp 80) (.tmp 82) 36 rfl rfl rfl HRUN.out ?_)
            go_roundw
            case rel => exact ⟨i + 1, by omega, by go_num, by rw [HZ.out]; exact HO6, HB6⟩
            case measure => simp [intOf]; omega
          -- END3
      -- END9
      -- END1
    · -- BEGIN4
      obtain rfl : nr = i := by omega
      have hnl : ¬ (nr : Int) < (nr : Int) := by omega
      obtain ⟨l, hl⟩ : ∃ l, apF (byQ s c q) nr = l := ⟨_, rfl⟩
      rw [hl] at HO HON HBY
      have HLM := hide (HME.out nr)
      rw [hl] at HLM
      have HBE : Hid (dcB s (stF s) c q = l) := hide HBY.out.symm
      clear hl HME HAP HTB HNP HBY
      rcases Nat.eq_zero_or_pos on with h0 | h0
      · subst h0
        have HRR : Hid (R = (0, 7, [])) := hide (by rw [← HR.out]; exact dcF_nil HBE.out HON.out)
        go_wp2_with fail
        go_ret3
        rw [HRR.out]
        exact ⟨_, rfl, OwnJ.nil _ _, HBG.out⟩
      have hn0 : ((on : Int) == 0) = false := by rw [beq_eq_false_iff_ne]; omega
      have HLR := hide (HO.out.li.2)
      obtain ⟨og, hA, hog, hcl⟩ : ∃ og, OA = some ⟨og, 0, none⟩ ∧ og < wr.heap.size ∧ ∀ j, j < on → wr.cell? ⟨og, j, none⟩ = some (.int .i64 (l.getD j 0)) := ownJ_cells HO.out HON.out h0
      subst hA
      have HCL := hide hcl
      obtain ⟨x0, hx0, hx0l⟩ := HLM.out (l.getD 0 0) (by
        rw [List.getD_eq_getElem?_getD, List.getElem?_eq_getElem (by rw [HON.out]; exact h0)]
        exact List.getElem_mem _)
      have hi_ : x0 < s.rs.length := by rw [HN.out.2]; exact hx0l
      obtain ⟨r1, hr1⟩ : ∃ r, s.rs.getD x0 r0 = r := ⟨_, rfl⟩
      obtain ⟨rb, ro, hra, hrb, a0, a1, a2⟩ := HD.out.rs.at_ hi_ hr1
      rw [HRA.out] at hra
      subst hra
      obtain ⟨s0, hs0⟩ : ∃ x, r1.say = x := ⟨_, rfl⟩
      rw [hs0] at a2
      have hsay0 : sayF s (l.getD 0 0) = s0 := by unfold sayF; rw [hx0, Int.toNat_natCast, hr1, hs0]
      have HS0 := hide hsay0
      have HX0 := hide hx0
      have HA2 := hide (And.intro hrb a2)
      have x00 : (0 : Int) ≤ (x0 : Int) := by omega
      have x0l : (x0 : Int) < (nr : Int) := by omega
      have hon0 : (0 : Int) < (on : Int) := by omega
      clear hcl hr1 a0 a1 a2 hs0 hsay0 hx0 hi_
      go_wp2_with fail
      clear g2
      obtain ⟨w4, hw4⟩ : ∃ x, x = wr := ⟨_, rfl⟩
      rw [← hw4] at HB HBG HCL HO HLR hog ⊢
      clear hw4
      go_loopw [15] (fun v15 wr => ∃ m : Nat, m ≤ on ∧ v15 = .int .i64 m ∧ Hid (∀ k, k < m → sayF s (l.getD k 0) = sayF s (l.getD 0 0)) ∧ Hid (Below w4.heap.size w4 wr)) (fun v15 _ => on - (intOf v15).toNat)
      case atStart => exact ⟨0, Nat.zero_le _, rfl, hide (fun k hk => absurd hk (by omega)), hide (Below.refl _ _)⟩
      case round =>
        obtain ⟨m, hm, rfl, HX, HW⟩ := hrel
        by_cases hml : m < on
        · -- BEGIN5
          have hml' : (m : Int) < (on : Int) := by omega
          have m0 : (0 : Int) ≤ (m : Int) := by omega
          have hstm : IntKind.i64.wrap ((m : Int) + 1) = ((m + 1 : Nat) : Int) := by rw [IntWalk.i64_in _ (by omega)]; omega
          obtain ⟨x, hx, hxl⟩ := HLM.out (l.getD m 0) (by
            rw [List.getD_eq_getElem?_getD, List.getElem?_eq_getElem (by rw [HON.out]; exact hml)]
            exact List.getElem_mem _)
          have hi_ : x < s.rs.length := by rw [HN.out.2]; exact hxl
          obtain ⟨r1, hr1⟩ : ∃ r, s.rs.getD x r0 = r := ⟨_, rfl⟩
          obtain ⟨rb', ro', hra, hrb, a0, a1, a2⟩ := HD.out.rs.at_ hi_ hr1
          rw [HRA.out] at hra
          injection hra with hra
          injection hra with z1 z2
          subst z1 z2
          obtain ⟨sx, hsx⟩ : ∃ x, r1.say = x := ⟨_, rfl⟩
          rw [hsx] at a2
          have hsay : sayF s (l.getD m 0) = sx := by unfold sayF; rw [hx, Int.toNat_natCast, hr1, hsx]
          have HSX := hide hsay
          have HS : Hid (∀ W, Below w4.heap.size w4 W → (W.cell? ⟨G, 2, none⟩ = some (.slice (some ⟨rb, ro, none⟩) nr d.rc) ∧ W.cell? ⟨og, m, none⟩ = some (.int .i64 (x : Nat)) ∧ W.cell? ⟨og, 0, none⟩ = some (.int .i64 (x0 : Nat)) ∧
           W.cell? ⟨rb, ro + x * 3 + 2, none⟩ = some (.int .i64 sx) ∧ W.cell? ⟨rb, ro + x0 * 3 + 2, none⟩ = some (.int .i64 s0))) := hide fun W h => by
            obtain ⟨-, -, -, g2, -⟩ := blk3 (HG1.out.ext (HB.out.trans (h.mono HB.out.size)))
            have hb := HBG.out.trans (h.mono HBG.out.size)
            exact ⟨g2, ((h.cell (p := ⟨og, m, none⟩) hog).trans (HCL.out m hml)).trans (by rw [hx]), ((h.cell (p := ⟨og, 0, none⟩) hog).trans (HCL.out 0 h0)).trans (by rw [HX0.out]),
              (hb.cell (p := ⟨rb, ro + x * 3 + 2, none⟩) hrb).trans a2, (hb.cell (p := ⟨rb, ro + x0 * 3 + 2, none⟩) hrb).trans HA2.out.2⟩
          have x1 : (0 : Int) ≤ (x : Int) := by omega
          have x2 : (x : Int) < (nr : Int) := by omega
          clear hr1 a0 a1 a2 hsx hsay hx hi_ hrb
          go_upto_region 18 with fail
          have Bd := hide (HW.out.trans ((Below.refl wr.heap.size wr).drew.mono HW.out.size))
          refine wp_region_J (fun W : World => (W.cell? ⟨G, 2, none⟩ = some (.slice (some ⟨rb, ro, none⟩) nr d.rc) ∧ W.cell? ⟨og, m, none⟩ = some (.int .i64 (x : Nat)) ∧ W.cell? ⟨og, 0, none⟩ = some (.int .i64 (x0 : Nat)) ∧
           W.cell? ⟨rb, ro + x * 3 + 2, none⟩ = some (.int .i64 sx) ∧ W.cell? ⟨rb, ro + x0 * 3 + 2, none⟩ = some (.int .i64 s0))) (by kernel_rfl) ?_
          generalize wr.drew = wd at Bd ⊢
          refine wpAnyJ_take 0 (v := ?_) (by first | exact hF | exact wideFn) (HS.out _ Bd.out) rfl (by kernel_rfl) (by kernel_rfl) (by kernel_rfl) (by kernel_rfl) rfl ?_ (by first | exact fun _ _ _ h => h | exact fun _ _ _ h => hQ2 _ _ _ _ _ h) ?_
          rotate_left
          · intro W hSW
            simp only [glA, glB, glC]
            (try dsimp only at hSW)
            go_simp
            with_reducible rfl
          (try simp only [glA, glB, glC, Act.put, glD, glE, glF])
          refine wpAnyJ_take 1 (v := ?_) (by first | exact hF | exact wideFn) (HS.out _ Bd.out) rfl (by kernel_rfl) (by kernel_rfl) (by kernel_rfl) (by kernel_rfl) rfl ?_ (by first | exact fun _ _ _ h => h | exact fun _ _ _ h => hQ2 _ _ _ _ _ h) ?_
          rotate_left
          · intro W hSW
            simp only [glA, glB, glC]
            (try dsimp only at hSW)
            go_simp
            with_reducible rfl
          (try simp only [glA, glB, glC, Act.put, glD, glE, glF])
          refine wpAnyJ_take 2 (v := ?_) (by first | exact hF | exact wideFn) (HS.out _ Bd.out) rfl (by kernel_rfl) (by kernel_rfl) (by kernel_rfl) (by kernel_rfl) rfl ?_ (by first | exact fun _ _ _ h => h | exact fun _ _ _ h => hQ2 _ _ _ _ _ h) ?_
          rotate_left
          · intro W hSW
            simp only [glA, glB, glC]
            (try dsimp only at hSW)
            go_simp
            with_reducible rfl
          (try simp only [glA, glB, glC, Act.put, glD, glE, glF])
          refine wpAnyJ_take 3 (v := ?_) (by first | exact hF | exact wideFn) (HS.out _ Bd.out) rfl (by kernel_rfl) (by kernel_rfl) (by kernel_rfl) (by kernel_rfl) rfl ?_ (by first | exact fun _ _ _ h => h | exact fun _ _ _ h => hQ2 _ _ _ _ _ h) ?_
          rotate_left
          · intro W hSW
            simp only [glA, glB, glC]
            (try dsimp only at hSW)
            go_simp
            with_reducible rfl
          (try simp only [glA, glB, glC, Act.put, glD, glE, glF])
          refine wpAnyJ_take 4 (v := ?_) (by first | exact hF | exact wideFn) (HS.out _ Bd.out) rfl (by kernel_rfl) (by kernel_rfl) (by kernel_rfl) (by kernel_rfl) rfl ?_ (by first | exact fun _ _ _ h => h | exact fun _ _ _ h => hQ2 _ _ _ _ _ h) ?_
          rotate_left
          · intro W hSW
            simp only [glA, glB, glC]
            (try dsimp only at hSW)
            go_simp
            with_reducible rfl
          (try simp only [glA, glB, glC, Act.put, glD, glE, glF])
          refine wpAnyJ_take 5 (v := ?_) (by first | exact hF | exact wideFn) (HS.out _ Bd.out) rfl (by kernel_rfl) (by kernel_rfl) (by kernel_rfl) (by kernel_rfl) rfl ?_ (by first | exact fun _ _ _ h => h | exact fun _ _ _ h => hQ2 _ _ _ _ _ h) ?_
          rotate_left
          · intro W hSW
            simp only [glA, glB, glC]
            (try dsimp only at hSW)
            go_simp
            with_reducible rfl
          (try simp only [glA, glB, glC, Act.put, glD, glE, glF])
          refine wpAnyJ_take 6 (v := ?_) (by first | exact hF | exact wideFn) (HS.out _ Bd.out) rfl (by kernel_rfl) (by kernel_rfl) (by kernel_rfl) (by kernel_rfl) rfl ?_ (by first | exact fun _ _ _ h => h | exact fun _ _ _ h => hQ2 _ _ _ _ _ h) ?_
          rotate_left
          · intro W hSW
            simp only [glA, glB, glC]
            (try dsimp only at hSW)
            go_simp
            with_reducible rfl
          (try simp only [glA, glB, glC, Act.put, glD, glE, glF])
          refine wpAnyJ_take 7 (v := ?_) (by first | exact hF | exact wideFn) (HS.out _ Bd.out) rfl (by kernel_rfl) (by kernel_rfl) (by kernel_rfl) (by kernel_rfl) rfl ?_ (by first | exact fun _ _ _ h => h | exact fun _ _ _ h => hQ2 _ _ _ _ _ h) ?_
          rotate_left
          · intro W hSW
            simp only [glA, glB, glC]
            (try dsimp only at hSW)
            go_simp
            with_reducible rfl
          (try simp only [glA, glB, glC, Act.put, glD, glE, glF])
          refine wpAnyJ_take 8 (v := ?_) (by first | exact hF | exact wideFn) (HS.out _ Bd.out) rfl (by kernel_rfl) (by kernel_rfl) (by kernel_rfl) (by kernel_rfl) rfl ?_ (by first | exact fun _ _ _ h => h | exact fun _ _ _ h => hQ2 _ _ _ _ _ h) ?_
          rotate_left
          · intro W hSW
            simp only [glA, glB, glC]
            (try dsimp only at hSW)
            go_simp
            with_reducible rfl
          (try simp only [glA, glB, glC, Act.put, glD, glE, glF])
          refine wpAnyJ_take 9 (v := ?_) (by first | exact hF | exact wideFn) (HS.out _ Bd.out) rfl (by kernel_rfl) (by kernel_rfl) (by kernel_rfl) (by kernel_rfl) rfl ?_ (by first | exact fun _ _ _ h => h | exact fun _ _ _ h => hQ2 _ _ _ _ _ h) ?_
          rotate_left
          · intro W hSW
            simp only [glA, glB, glC]
            (try dsimp only at hSW)
            go_simp
            with_reducible rfl
          (try simp only [glA, glB, glC, Act.put, glD, glE, glF])
          refine wpAnyJ_take 10 (v := ?_) (by first | exact hF | exact wideFn) (HS.out _ Bd.out) rfl (by kernel_rfl) (by kernel_rfl) (by kernel_rfl) (by kernel_rfl) rfl ?_ (by first | exact fun _ _ _ h => h | exact fun _ _ _ h => hQ2 _ _ _ _ _ h) ?_
          rotate_left
          · intro W hSW
            simp only [glA, glB, glC]
            (try dsimp only at hSW)
            go_simp
            with_reducible rfl
          (try simp only [glA, glB, glC, Act.put, glD, glE, glF])
          refine wpAnyJ_take 11 (v := ?_) (by first | exact hF | exact wideFn) (HS.out _ Bd.out) rfl (by kernel_rfl) (by kernel_rfl) (by kernel_rfl) (by kernel_rfl) rfl ?_ (by first | exact fun _ _ _ h => h | exact fun _ _ _ h => hQ2 _ _ _ _ _ h) ?_
          rotate_left
          · intro W hSW
            simp only [glA, glB, glC]
            (try dsimp only at hSW)
            go_simp
            with_reducible rfl
          (try simp only [glA, glB, glC, Act.put, glD, glE, glF])
          refine wpAnyJ_take 12 (v := ?_) (by first | exact hF | exact wideFn) (HS.out _ Bd.out) rfl (by kernel_rfl) (by kernel_rfl) (by kernel_rfl) (by kernel_rfl) rfl ?_ (by first | exact fun _ _ _ h => h | exact fun _ _ _ h => hQ2 _ _ _ _ _ h) ?_
          rotate_left
          · intro W hSW
            simp only [glA, glB, glC]
            (try dsimp only at hSW)
            go_simp
            with_reducible rfl
          (try simp only [glA, glB, glC, Act.put, glD, glE, glF])
          refine wpAnyJ_take 13 (v := ?_) (by first | exact hF | exact wideFn) (HS.out _ Bd.out) rfl (by kernel_rfl) (by kernel_rfl) (by kernel_rfl) (by kernel_rfl) rfl ?_ (by first | exact fun _ _ _ h => h | exact fun _ _ _ h => hQ2 _ _ _ _ _ h) ?_
          rotate_left
          · intro W hSW
            simp only [glA, glB, glC]
            (try dsimp only at hSW)
            go_simp
            with_reducible rfl
          (try simp only [glA, glB, glC, Act.put, glD, glE, glF])
          refine wpAnyJ_take 14 (v := ?_) (by first | exact hF | exact wideFn) (HS.out _ Bd.out) rfl (by kernel_rfl) (by kernel_rfl) (by kernel_rfl) (by kernel_rfl) rfl ?_ (by first | exact fun _ _ _ h => h | exact fun _ _ _ h => hQ2 _ _ _ _ _ h) ?_
          rotate_left
          · intro W hSW
            simp only [glA, glB, glC]
            (try dsimp only at hSW)
            go_simp
            with_reducible rfl
          (try simp only [glA, glB, glC, Act.put, glD, glE, glF])
          refine wpAnyJ_take 15 (v := ?_) (by first | exact hF | exact wideFn) (HS.out _ Bd.out) rfl (by kernel_rfl) (by kernel_rfl) (by kernel_rfl) (by kernel_rfl) rfl ?_ (by first | exact fun _ _ _ h => h | exact fun _ _ _ h => hQ2 _ _ _ _ _ h) ?_
          rotate_left
          · intro W hSW
            simp only [glA, glB, glC]
            (try dsimp only at hSW)
            go_simp
            with_reducible rfl
          (try simp only [glA, glB, glC, Act.put, glD, glE, glF])
          refine wpAnyJ_take 16 (v := ?_) (by first | exact hF | exact wideFn) (HS.out _ Bd.out) rfl (by kernel_rfl) (by kernel_rfl) (by kernel_rfl) (by kernel_rfl) rfl ?_ (by first | exact fun _ _ _ h => h | exact fun _ _ _ h => hQ2 _ _ _ _ _ h) ?_
          rotate_left
          · intro W hSW
            simp only [glA, glB, glC]
            (try dsimp only at hSW)
            go_simp
            with_reducible rfl
          (try simp only [glA, glB, glC, Act.put, glD, glE, glF])
          by_cases he : sx = s0
          · have HX2 : Hid (∀ k, k < m + 1 → sayF s (l.getD k 0) = sayF s (l.getD 0 0)) := hide (fun k hk => by
              rcases (by omega : k < m ∨ k = m) with h | h
              · exact HX.out k h
              · rw [h, HSX.out, HS0.out]; exact he)
            obtain rfl : s0 = sx := he.symm
            refine wpAnyJ_take 17 (v := ?_) (by first | exact hF | exact wideFn) (HS.out _ Bd.out) rfl (by kernel_rfl) (by kernel_rfl) (by kernel_rfl) (by kernel_rfl) rfl ?_ (by first | exact fun _ _ _ h => h | exact fun _ _ _ h => hQ2 _ _ _ _ _ h) ?_
            rotate_left
            · intro W hSW
              simp only [glA, glB, glC]
              (try dsimp only at hSW)
              go_simp
              with_reducible rfl
            (try simp only [glA, glB, glC, Act.put, glD, glE, glF])
            refine wpAnyJ_done (by kernel_rfl) ?_
            go_wp2_with fail
            go_roundw
            case rel => exact ⟨m + 1, by omega, by go_num, HX2, Bd⟩
            case measure => simp [intOf]; omega
          · have HRR : Hid (R = (0, 110, [])) := hide (by
              rw [← HR.out]
              exact dcF_clash HBE.out (by rw [HON.out]; exact hml) (by rw [HSX.out, HS0.out]; exact he))
            refine wpAnyJ_take 17 (v := ?_) (by first | exact hF | exact wideFn) (HS.out _ Bd.out) rfl (by kernel_rfl) (by kernel_rfl) (by kernel_rfl) (by kernel_rfl) rfl ?_ (by first | exact fun _ _ _ h => h | exact fun _ _ _ h => hQ2 _ _ _ _ _ h) ?_
            rotate_left
            · intro W hSW
              simp only [glA, glB, glC]
              (try dsimp only at hSW)
              go_simp
              with_reducible rfl
            (try simp only [glA, glB, glC, Act.put, glD, glE, glF])
            refine wpAnyJ_done (by kernel_rfl) ?_
            go_wp2_with fail
            go_ret3
            rw [HRR.out]
            exact ⟨_, rfl, OwnJ.nil _ _, HBG.out.trans (Bd.out.mono HBG.out.size)⟩
          -- END5
        · -- BEGIN6
          obtain rfl : m = on := by omega
          have hnl2 : ¬ (m : Int) < (m : Int) := by omega
          have HRR : Hid (R = (s0, 0, l)) := hide (by
            rw [← HR.out, ← HS0.out]
            exact dcF_says HBE.out (by rw [HON.out]; exact h0) (by rw [HON.out]; exact HX.out))
          have HS : Hid (∀ W, Below w4.heap.size w4 W → (W.cell? ⟨G, 2, none⟩ = some (.slice (some ⟨rb, ro, none⟩) nr d.rc) ∧ W.cell? ⟨og, 0, none⟩ = some (.int .i64 (x0 : Nat)) ∧
           W.cell? ⟨rb, ro + x0 * 3 + 2, none⟩ = some (.int .i64 s0))) := hide fun W h => by
            obtain ⟨-, -, -, g2, -⟩ := blk3 (HG1.out.ext (HB.out.trans (h.mono HB.out.size)))
            have hb := HBG.out.trans (h.mono HBG.out.size)
            exact ⟨g2, ((h.cell (p := ⟨og, 0, none⟩) hog).trans (HCL.out 0 h0)).trans (by rw [HX0.out]), (hb.cell (p := ⟨rb, ro + x0 * 3 + 2, none⟩) HA2.out.1).trans HA2.out.2⟩
          have HO2 := hide (OwnJ.low2 HO.out HB0.out.size)
          go_upto_region 20 with fail
          have Bd := hide (HW.out.trans ((Below.refl wr.heap.size wr).drew.mono HW.out.size))
          refine wp_region_J (fun W : World => (W.cell? ⟨G, 2, none⟩ = some (.slice (some ⟨rb, ro, none⟩) nr d.rc) ∧ W.cell? ⟨og, 0, none⟩ = some (.int .i64 (x0 : Nat)) ∧
           W.cell? ⟨rb, ro + x0 * 3 + 2, none⟩ = some (.int .i64 s0))) (by kernel_rfl) ?_
          generalize wr.drew = wd at Bd ⊢
          refine wpAnyJ_take 0 (v := ?_) (by first | exact hF | exact wideFn) (HS.out _ Bd.out) rfl (by kernel_rfl) (by kernel_rfl) (by kernel_rfl) (by kernel_rfl) rfl ?_ (by first | exact fun _ _ _ h => h | exact fun _ _ _ h => hQ2 _ _ _ _ _ h) ?_
          rotate_left
          · intro W hSW
            simp only [glA, glB, glC]
            (try dsimp only at hSW)
            go_simp
            with_reducible rfl
          (try simp only [glA, glB, glC, Act.put, glD, glE, glF])
          refine wpAnyJ_take 1 (v := ?_) (by first | exact hF | exact wideFn) (HS.out _ Bd.out) rfl (by kernel_rfl) (by kernel_rfl) (by kernel_rfl) (by kernel_rfl) rfl ?_ (by first | exact fun _ _ _ h => h | exact fun _ _ _ h => hQ2 _ _ _ _ _ h) ?_
          rotate_left
          · intro W hSW
            simp only [glA, glB, glC]
            (try dsimp only at hSW)
            go_simp
            with_reducible rfl
          (try simp only [glA, glB, glC, Act.put, glD, glE, glF])
          refine wpAnyJ_take 2 (v := ?_) (by first | exact hF | exact wideFn) (HS.out _ Bd.out) rfl (by kernel_rfl) (by kernel_rfl) (by kernel_rfl) (by kernel_rfl) rfl ?_ (by first | exact fun _ _ _ h => h | exact fun _ _ _ h => hQ2 _ _ _ _ _ h) ?_
          rotate_left
          · intro W hSW
            simp only [glA, glB, glC]
            (try dsimp only at hSW)
            go_simp
            with_reducible rfl
          (try simp only [glA, glB, glC, Act.put, glD, glE, glF])
          refine wpAnyJ_take 3 (v := ?_) (by first | exact hF | exact wideFn) (HS.out _ Bd.out) rfl (by kernel_rfl) (by kernel_rfl) (by kernel_rfl) (by kernel_rfl) rfl ?_ (by first | exact fun _ _ _ h => h | exact fun _ _ _ h => hQ2 _ _ _ _ _ h) ?_
          rotate_left
          · intro W hSW
            simp only [glA, glB, glC]
            (try dsimp only at hSW)
            go_simp
            with_reducible rfl
          (try simp only [glA, glB, glC, Act.put, glD, glE, glF])
          refine wpAnyJ_take 4 (v := ?_) (by first | exact hF | exact wideFn) (HS.out _ Bd.out) rfl (by kernel_rfl) (by kernel_rfl) (by kernel_rfl) (by kernel_rfl) rfl ?_ (by first | exact fun _ _ _ h => h | exact fun _ _ _ h => hQ2 _ _ _ _ _ h) ?_
          rotate_left
          · intro W hSW
            simp only [glA, glB, glC]
            (try dsimp only at hSW)
            go_simp
            with_reducible rfl
          (try simp only [glA, glB, glC, Act.put, glD, glE, glF])
          refine wpAnyJ_take 5 (v := ?_) (by first | exact hF | exact wideFn) (HS.out _ Bd.out) rfl (by kernel_rfl) (by kernel_rfl) (by kernel_rfl) (by kernel_rfl) rfl ?_ (by first | exact fun _ _ _ h => h | exact fun _ _ _ h => hQ2 _ _ _ _ _ h) ?_
          rotate_left
          · intro W hSW
            simp only [glA, glB, glC]
            (try dsimp only at hSW)
            go_simp
            with_reducible rfl
          (try simp only [glA, glB, glC, Act.put, glD, glE, glF])
          refine wpAnyJ_take 6 (v := ?_) (by first | exact hF | exact wideFn) (HS.out _ Bd.out) rfl (by kernel_rfl) (by kernel_rfl) (by kernel_rfl) (by kernel_rfl) rfl ?_ (by first | exact fun _ _ _ h => h | exact fun _ _ _ h => hQ2 _ _ _ _ _ h) ?_
          rotate_left
          · intro W hSW
            simp only [glA, glB, glC]
            (try dsimp only at hSW)
            go_simp
            with_reducible rfl
          (try simp only [glA, glB, glC, Act.put, glD, glE, glF])
          refine wpAnyJ_take 7 (v := ?_) (by first | exact hF | exact wideFn) (HS.out _ Bd.out) rfl (by kernel_rfl) (by kernel_rfl) (by kernel_rfl) (by kernel_rfl) rfl ?_ (by first | exact fun _ _ _ h => h | exact fun _ _ _ h => hQ2 _ _ _ _ _ h) ?_
          rotate_left
          · intro W hSW
            simp only [glA, glB, glC]
            (try dsimp only at hSW)
            go_simp
            with_reducible rfl
          (try simp only [glA, glB, glC, Act.put, glD, glE, glF])
          refine wpAnyJ_take 8 (v := ?_) (by first | exact hF | exact wideFn) (HS.out _ Bd.out) rfl (by kernel_rfl) (by kernel_rfl) (by kernel_rfl) (by kernel_rfl) rfl ?_ (by first | exact fun _ _ _ h => h | exact fun _ _ _ h => hQ2 _ _ _ _ _ h) ?_
          rotate_left
          · intro W hSW
            simp only [glA, glB, glC]
            (try dsimp only at hSW)
            go_simp
            with_reducible rfl
          (try simp only [glA, glB, glC, Act.put, glD, glE, glF])
          refine wpAnyJ_take 9 (v := ?_) (by first | exact hF | exact wideFn) (HS.out _ Bd.out) rfl (by kernel_rfl) (by kernel_rfl) (by kernel_rfl) (by kernel_rfl) rfl ?_ (by first | exact fun _ _ _ h => h | exact fun _ _ _ h => hQ2 _ _ _ _ _ h) ?_
          rotate_left
          · intro W hSW
            simp only [glA, glB, glC]
            (try dsimp only at hSW)
            go_simp
            with_reducible rfl
          (try simp only [glA, glB, glC, Act.put, glD, glE, glF])
          refine wpAnyJ_take 10 (v := ?_) (by first | exact hF | exact wideFn) (HS.out _ Bd.out) rfl (by kernel_rfl) (by kernel_rfl) (by kernel_rfl) (by kernel_rfl) rfl ?_ (by first | exact fun _ _ _ h => h | exact fun _ _ _ h => hQ2 _ _ _ _ _ h) ?_
          rotate_left
          · intro W hSW
            simp only [glA, glB, glC]
            (try dsimp only at hSW)
            go_simp
            with_reducible rfl
          (try simp only [glA, glB, glC, Act.put, glD, glE, glF])
          refine wpAnyJ_take 11 (v := ?_) (by first | exact hF | exact wideFn) (HS.out _ Bd.out) rfl (by kernel_rfl) (by kernel_rfl) (by kernel_rfl) (by kernel_rfl) rfl ?_ (by first | exact fun _ _ _ h => h | exact fun _ _ _ h => hQ2 _ _ _ _ _ h) ?_
          rotate_left
          · intro W hSW
            simp only [glA, glB, glC]
            (try dsimp only at hSW)
            go_simp
            with_reducible rfl
          (try simp only [glA, glB, glC, Act.put, glD, glE, glF])
          refine wpAnyJ_done (by kernel_rfl) ?_
          go_wp2_with fail
          go_ret3
          rw [HRR.out]
          exact ⟨_, rfl, OwnJ.ext HO2.out Bd.out, HBG.out.trans (Bd.out.mono HBG.out.size)⟩
          -- END6
      -- END4
end Go.Proofs.YtmpegkojencbjaaDoor
/- School: Special, walked. -/
namespace Go.Proofs.YtmpegkojencbjaaDoor
open List renaming getElem_toArray → glA, getElem_cons_zero → glB, getElem_cons_succ → glC, setIfInBounds_toArray → glD, set_cons_zero → glE, set_cons_succ → glF
open Go Go.RowKit Go.Shelf
set_option maxHeartbeats 4000000
set_option maxRecDepth 100000
/-- what Special returns -/
def spR (s : Sch) (i j : Int) : Bool × Int :=
  if schB s then if (0 ≤ i ∧ i ≤ (s.rs.length : Int) - 1) ∧ (0 ≤ j ∧ j ≤ (s.rs.length : Int) - 1) then (spc (stF s i.toNat) (stF s j.toNat), 0) else (false, 3) else (false, 2)
theorem Special_any (d : Ad_) (s : Sch) (i j : Int) (w : World) (hd : ScR w w.heap.size d s) (hz : ScZ s) :
    Calls Tryd.prog 38 #[scV d s, .int .i64 i, .int .i64 j] w fun e w' => e = .returned (.tuple #[.bool (spR s i j).1, .int .i64 (spR s i j).2]) ∧ Below w.heap.size w w' := by
  have hz2 := hz.nr
  unfold maxLen at hz2
  obtain ⟨nf, hf⟩ : ∃ n, s.fs.length = n := ⟨_, rfl⟩
  obtain ⟨nr, hr⟩ : ∃ n, s.rs.length = n := ⟨_, rfl⟩
  obtain ⟨Q, hQ⟩ : ∃ n, s.q = n := ⟨_, rfl⟩
  have HOP : Hid (∀ W, Below w.heap.size w W → Calls Tryd.prog 62 #[.agg #[.slice d.fa nf d.fc, .int .i64 Q, .slice d.ra nr d.rc]] W (OpPost W d s)) := hide fun W hB => by
    have := open_any d s W (hd.below hB) hz.nf hz.nr
    unfold scV at this
    rw [hf, hr, hQ] at this
    exact this
  unfold scV
  have HN := hide (And.intro hf (And.intro hr hQ))
  have HD := hide hd
  obtain ⟨R, hR⟩ : ∃ r, spR s i j = r := ⟨_, rfl⟩
  rw [hf, hr, hQ, hR]
  rw [hr] at hz2
  have HR := hide hR
  have HB0 := hide ((Below.refl w.heap.size w).alloc (Nat.le_refl _) (.cells #[.slice d.fa nf d.fc, .int .i64 Q, .slice d.ra nr d.rc] 47))
  have G1 := Blk.new w 47 #[.slice d.fa nf d.fc, .int .i64 Q, .slice d.ra nr d.rc]
  clear hd hf hr hQ hz hR
  go_enter Tryd.func38, Tryd.ntmps38
  go_upto_region 1 with fail
  generalize (w.alloc (.cells #[.slice d.fa nf d.fc, .int .i64 Q, .slice d.ra nr d.rc] 47)) = w1 at HB0 G1 ⊢
  have HG1 := hide G1
  obtain ⟨G, hG⟩ : ∃ x, w.heap.size = x := ⟨_, rfl⟩
  rw [hG] at G1 HG1 ⊢
  obtain ⟨-, g0, g1, g2, -⟩ := blk3 G1
  clear G1 hG
  go_wp2_with fail
  refine (HOP.out w1 HB0.out).mono ?_
  intro e w2 hop
  unfold OpPost at hop
  by_cases hs : schB s = true
  rotate_left
  · rw [if_neg hs] at hop
    obtain ⟨rfl, hb2⟩ := hop
    have hRR : R = (false, 2) := by rw [← HR.out]; unfold spR; rw [if_neg hs]
    subst hRR
    have HB2 := hide (HB0.out.trans (hb2.mono HB0.out.size))
    clear hb2 hs g0 g1 g2
    go_wp2_with fail
    go_ret2
    exact ⟨rfl, HB2.out⟩
  rw [if_pos hs] at hop
  obtain ⟨C, SA, sc, rfl, hcode⟩ := hop
  have HB2 := hide (HB0.out.trans (hcode.below.mono HB0.out.size))
  have HCR := hide (hcode.cr (HD.out.below HB0.out))
  have G2 := HG1.out.ext hcode.below
  have HS := hide hs
  clear hcode g0 g1 g2 hs HG1
  obtain ⟨-, g0, g1, g2, -⟩ := blk3 G2
  have wn : IntKind.i64.wrap ((nr : Int) - 1) = (nr : Int) - 1 := IntWalk.i64_in _ (by omega)
  have HWI := within_any i 0 ((nr : Int) - 1) w2
  have HWJ := within_any j 0 ((nr : Int) - 1) w2
  simp only [wb] at HWI HWJ
  by_cases hi : 0 ≤ i ∧ i ≤ (nr : Int) - 1
  rotate_left
  · rw [decide_eq_false hi] at HWI
    have HWI := hide HWI
    have hRR : R = (false, 3) := by rw [← HR.out]; unfold spR; rw [if_pos HS.out, HN.out.2.1, if_neg (fun h => hi h.1)]
    subst hRR
    clear hi HWJ
    go_wp2_with fail
    refine HWI.out.mono ?_
    rintro e _ ⟨rfl, rfl⟩
    go_wp2_with fail
    go_ret2
    exact ⟨rfl, HB2.out⟩
  rw [decide_eq_true hi] at HWI
  by_cases hj : 0 ≤ j ∧ j ≤ (nr : Int) - 1
  rotate_left
  · rw [decide_eq_false hj] at HWJ
    have HWI := hide HWI
    have HWJ := hide HWJ
    have hRR : R = (false, 3) := by rw [← HR.out]; unfold spR; rw [if_pos HS.out, HN.out.2.1, if_neg (fun h => hj h.2)]
    subst hRR
    clear hi hj
    go_wp2_with fail
    refine HWI.out.mono ?_
    rintro e _ ⟨rfl, rfl⟩
    go_wp2_with fail
    refine HWJ.out.mono ?_
    rintro e _ ⟨rfl, rfl⟩
    go_wp2_with fail
    go_ret2
    exact ⟨rfl, HB2.out⟩
  rw [decide_eq_true hj] at HWJ
  have HWI := hide HWI
  have HWJ := hide HWJ
  have hRR : R = (spc (stF s i.toNat) (stF s j.toNat), 0) := by rw [← HR.out]; unfold spR; rw [if_pos HS.out, HN.out.2.1, if_pos ⟨hi, hj⟩]
  have HOK := hide (schB_ok HS.out)
  obtain ⟨i, rfl⟩ : ∃ n : Nat, i = (n : Int) := ⟨i.toNat, by omega⟩
  obtain ⟨j, rfl⟩ : ∃ n : Nat, j = (n : Int) := ⟨j.toNat, by omega⟩
  rw [Int.toNat_natCast, Int.toNat_natCast] at hRR
  have hin : i < nr := by omega
  have hjn : j < nr := by omega
  have HSP : Hid (∀ W, Calls Tryd.prog 68 #[.agg #[.int .i64 ((stF s i 0 : Nat) : Int), .int .i64 ((stF s i 1 : Nat) : Int), .int .i64 ((stF s i 2 : Nat) : Int), .int .i64 ((stF s i 3 : Nat) : Int), .int .i64 ((stF s i 4 : Nat) : Int)], .agg #[.int .i64 ((stF s j 0 : Nat) : Int), .int .i64 ((stF s j 1 : Nat) : Int), .int .i64 ((stF s j 2 : Nat) : Int), .int .i64 ((stF s j 3 : Nat) : Int), .int .i64 ((stF s j 4 : Nat) : Int)]] W fun e w' => e = .returned (.bool (spc (stF s i) (stF s j))) ∧ Below W.heap.size W w') :=
    hide fun W => special_any (stF s i) (stF s j) W (fun k => Nat.lt_trans (stF_lt HOK.out.fs i k) (by decide)) (fun k => Nat.lt_trans (stF_lt HOK.out.fs j k) (by decide))
  obtain ⟨r, hr⟩ : ∃ r, spc (stF s i) (stF s j) = r := ⟨_, rfl⟩
  rw [hr] at hRR HSP
  subst hRR
  clear hr hi hj
  have HS6 : Hid (∀ W, Below w2.heap.size w2 W → ∃ sb so, SA = some ⟨sb, so, none⟩ ∧ (W.cell? ⟨C, 3, none⟩ = some (.slice (some ⟨sb, so, none⟩) nr sc) ∧
   (W.cell? ⟨sb, so + i * 5, none⟩ = some (.int .i64 ((stF s i 0 : Nat) : Int)) ∧ W.cell? ⟨sb, so + i * 5 + 1, none⟩ = some (.int .i64 ((stF s i 1 : Nat) : Int)) ∧ W.cell? ⟨sb, so + i * 5 + 2, none⟩ = some (.int .i64 ((stF s i 2 : Nat) : Int)) ∧ W.cell? ⟨sb, so + i * 5 + 3, none⟩ = some (.int .i64 ((stF s i 3 : Nat) : Int)) ∧ W.cell? ⟨sb, so + i * 5 + 4, none⟩ = some (.int .i64 ((stF s i 4 : Nat) : Int))) ∧
   (W.cell? ⟨sb, so + j * 5, none⟩ = some (.int .i64 ((stF s j 0 : Nat) : Int)) ∧ W.cell? ⟨sb, so + j * 5 + 1, none⟩ = some (.int .i64 ((stF s j 1 : Nat) : Int)) ∧ W.cell? ⟨sb, so + j * 5 + 2, none⟩ = some (.int .i64 ((stF s j 2 : Nat) : Int)) ∧ W.cell? ⟨sb, so + j * 5 + 3, none⟩ = some (.int .i64 ((stF s j 3 : Nat) : Int)) ∧ W.cell? ⟨sb, so + j * 5 + 4, none⟩ = some (.int .i64 ((stF s j 4 : Nat) : Int))))) := hide fun W h => by
    have hc := HCR.out.below h
    have c3 := hc.c3
    rw [HN.out.2.1] at c3
    obtain ⟨sb, so, hsa, hsb, hsc⟩ := hc.st (by rw [HN.out.2.1]; omega)
    have ki : i < s.rs.length := by rw [HN.out.2.1]; exact hin
    have kj : j < s.rs.length := by rw [HN.out.2.1]; exact hjn
    rw [hsa] at c3
    exact ⟨sb, so, hsa, c3, ⟨hsc i 0 ki (by omega), hsc i 1 ki (by omega), hsc i 2 ki (by omega), hsc i 3 ki (by omega), hsc i 4 ki (by omega)⟩, hsc j 0 kj (by omega), hsc j 1 kj (by omega), hsc j 2 kj (by omega), hsc j 3 kj (by omega), hsc j 4 kj (by omega)⟩
  obtain ⟨sb, so, rfl, -⟩ := HS6.out _ (Below.refl _ _)
  have HS6' : Hid (∀ W, Below w2.heap.size w2 W → (W.cell? ⟨C, 3, none⟩ = some (.slice (some ⟨sb, so, none⟩) nr sc) ∧
   (W.cell? ⟨sb, so + i * 5, none⟩ = some (.int .i64 ((stF s i 0 : Nat) : Int)) ∧ W.cell? ⟨sb, so + i * 5 + 1, none⟩ = some (.int .i64 ((stF s i 1 : Nat) : Int)) ∧ W.cell? ⟨sb, so + i * 5 + 2, none⟩ = some (.int .i64 ((stF s i 2 : Nat) : Int)) ∧ W.cell? ⟨sb, so + i * 5 + 3, none⟩ = some (.int .i64 ((stF s i 3 : Nat) : Int)) ∧ W.cell? ⟨sb, so + i * 5 + 4, none⟩ = some (.int .i64 ((stF s i 4 : Nat) : Int))) ∧
   (W.cell? ⟨sb, so + j * 5, none⟩ = some (.int .i64 ((stF s j 0 : Nat) : Int)) ∧ W.cell? ⟨sb, so + j * 5 + 1, none⟩ = some (.int .i64 ((stF s j 1 : Nat) : Int)) ∧ W.cell? ⟨sb, so + j * 5 + 2, none⟩ = some (.int .i64 ((stF s j 2 : Nat) : Int)) ∧ W.cell? ⟨sb, so + j * 5 + 3, none⟩ = some (.int .i64 ((stF s j 3 : Nat) : Int)) ∧ W.cell? ⟨sb, so + j * 5 + 4, none⟩ = some (.int .i64 ((stF s j 4 : Nat) : Int))))) := hide fun W h => by
    obtain ⟨sb', so', e, h2⟩ := HS6.out W h
    injection e with e
    injection e with e1 e2
    subst e1 e2
    exact h2
  clear HS6
  have i0 : (0 : Int) ≤ (i : Int) := by omega
  have j0 : (0 : Int) ≤ (j : Int) := by omega
  have i1 : (i : Int) < (nr : Int) := by omega
  have j1 : (j : Int) < (nr : Int) := by omega
  go_wp2_with fail
  refine HWI.out.mono ?_
  rintro e _ ⟨rfl, rfl⟩
  go_wp2_with fail
  refine HWJ.out.mono ?_
  rintro e _ ⟨rfl, rfl⟩
  go_upto_region 6 with fail
  clear g0 g1 g2 G2
  have Bd := hide ((Below.refl w2.heap.size w2).drew)
  refine wp_region_J (fun W : World => (W.cell? ⟨C, 3, none⟩ = some (.slice (some ⟨sb, so, none⟩) nr sc) ∧
   (W.cell? ⟨sb, so + i * 5, none⟩ = some (.int .i64 ((stF s i 0 : Nat) : Int)) ∧ W.cell? ⟨sb, so + i * 5 + 1, none⟩ = some (.int .i64 ((stF s i 1 : Nat) : Int)) ∧ W.cell? ⟨sb, so + i * 5 + 2, none⟩ = some (.int .i64 ((stF s i 2 : Nat) : Int)) ∧ W.cell? ⟨sb, so + i * 5 + 3, none⟩ = some (.int .i64 ((stF s i 3 : Nat) : Int)) ∧ W.cell? ⟨sb, so + i * 5 + 4, none⟩ = some (.int .i64 ((stF s i 4 : Nat) : Int))) ∧
   (W.cell? ⟨sb, so + j * 5, none⟩ = some (.int .i64 ((stF s j 0 : Nat) : Int)) ∧ W.cell? ⟨sb, so + j * 5 + 1, none⟩ = some (.int .i64 ((stF s j 1 : Nat) : Int)) ∧ W.cell? ⟨sb, so + j * 5 + 2, none⟩ = some (.int .i64 ((stF s j 2 : Nat) : Int)) ∧ W.cell? ⟨sb, so + j * 5 + 3, none⟩ = some (.int .i64 ((stF s j 3 : Nat) : Int)) ∧ W.cell? ⟨sb, so + j * 5 + 4, none⟩ = some (.int .i64 ((stF s j 4 : Nat) : Int))))) (by kernel_rfl) ?_
  generalize w2.drew = wd at Bd ⊢
  refine wpAnyJ_take 0 (v := ?_) (by first | exact hF | exact wideFn) (HS6'.out _ Bd.out) rfl (by kernel_rfl) (by kernel_rfl) (by kernel_rfl) (by kernel_rfl) rfl ?_ (by first | exact fun _ _ _ h => h | exact fun _ _ _ h => hQ2 _ _ _ _ _ h) ?_
  rotate_left
  · intro W hSW
    simp only [glA, glB, glC]
    (try dsimp only at hSW)
    go_simp
    with_reducible rfl
  (try simp only [glA, glB, glC, Act.put, glD, glE, glF])
  refine wpAnyJ_take 1 (v := ?_) (by first | exact hF | exact wideFn) (HS6'.out _ Bd.out) rfl (by kernel_rfl) (by kernel_rfl) (by kernel_rfl) (by kernel_rfl) rfl ?_ (by first | exact fun _ _ _ h => h | exact fun _ _ _ h => hQ2 _ _ _ _ _ h) ?_
  rotate_left
  · intro W hSW
    simp only [glA, glB, glC]
    (try dsimp only at hSW)
    go_simp
    with_reducible rfl
  (try simp only [glA, glB, glC, Act.put, glD, glE, glF])
  refine wpAnyJ_take 2 (v := ?_) (by first | exact hF | exact wideFn) (HS6'.out _ Bd.out) rfl (by kernel_rfl) (by kernel_rfl) (by kernel_rfl) (by kernel_rfl) rfl ?_ (by first | exact fun _ _ _ h => h | exact fun _ _ _ h => hQ2 _ _ _ _ _ h) ?_
  rotate_left
  · intro W hSW
    simp only [glA, glB, glC]
    (try dsimp only at hSW)
    go_simp
    with_reducible rfl
  (try simp only [glA, glB, glC, Act.put, glD, glE, glF])
  refine wpAnyJ_take 3 (v := ?_) (by first | exact hF | exact wideFn) (HS6'.out _ Bd.out) rfl (by kernel_rfl) (by kernel_rfl) (by kernel_rfl) (by kernel_rfl) rfl ?_ (by first | exact fun _ _ _ h => h | exact fun _ _ _ h => hQ2 _ _ _ _ _ h) ?_
  rotate_left
  · intro W hSW
    simp only [glA, glB, glC]
    (try dsimp only at hSW)
    go_simp
    with_reducible rfl
  (try simp only [glA, glB, glC, Act.put, glD, glE, glF])
  refine wpAnyJ_take 4 (v := ?_) (by first | exact hF | exact wideFn) (HS6'.out _ Bd.out) rfl (by kernel_rfl) (by kernel_rfl) (by kernel_rfl) (by kernel_rfl) rfl ?_ (by first | exact fun _ _ _ h => h | exact fun _ _ _ h => hQ2 _ _ _ _ _ h) ?_
  rotate_left
  · intro W hSW
    simp only [glA, glB, glC]
    (try dsimp only at hSW)
    go_simp
    with_reducible rfl
  (try simp only [glA, glB, glC, Act.put, glD, glE, glF])
  refine wpAnyJ_take 5 (v := ?_) (by first | exact hF | exact wideFn) (HS6'.out _ Bd.out) rfl (by kernel_rfl) (by kernel_rfl) (by kernel_rfl) (by kernel_rfl) rfl ?_ (by first | exact fun _ _ _ h => h | exact fun _ _ _ h => hQ2 _ _ _ _ _ h) ?_
  rotate_left
  · intro W hSW
    simp only [glA, glB, glC]
    (try dsimp only at hSW)
    go_simp
    with_reducible rfl
  (try simp only [glA, glB, glC, Act.put, glD, glE, glF])
  refine wpAnyJ_take 6 (v := ?_) (by first | exact hF | exact wideFn) (HS6'.out _ Bd.out) rfl (by kernel_rfl) (by kernel_rfl) (by kernel_rfl) (by kernel_rfl) rfl ?_ (by first | exact fun _ _ _ h => h | exact fun _ _ _ h => hQ2 _ _ _ _ _ h) ?_
  rotate_left
  · intro W hSW
    simp only [glA, glB, glC]
    (try dsimp only at hSW)
    go_simp
    with_reducible rfl
  (try simp only [glA, glB, glC, Act.put, glD, glE, glF])
  refine wpAnyJ_take 7 (v := ?_) (by first | exact hF | exact wideFn) (HS6'.out _ Bd.out) rfl (by kernel_rfl) (by kernel_rfl) (by kernel_rfl) (by kernel_rfl) rfl ?_ (by first | exact fun _ _ _ h => h | exact fun _ _ _ h => hQ2 _ _ _ _ _ h) ?_
  rotate_left
  · intro W hSW
    simp only [glA, glB, glC]
    (try dsimp only at hSW)
    go_simp
    with_reducible rfl
  (try simp only [glA, glB, glC, Act.put, glD, glE, glF])
  refine wpAnyJ_take 8 (v := ?_) (by first | exact hF | exact wideFn) (HS6'.out _ Bd.out) rfl (by kernel_rfl) (by kernel_rfl) (by kernel_rfl) (by kernel_rfl) rfl ?_ (by first | exact fun _ _ _ h => h | exact fun _ _ _ h => hQ2 _ _ _ _ _ h) ?_
  rotate_left
  · intro W hSW
    simp only [glA, glB, glC]
    (try dsimp only at hSW)
    go_simp
    with_reducible rfl
  (try simp only [glA, glB, glC, Act.put, glD, glE, glF])
  refine wpAnyJ_take 9 (v := ?_) (by first | exact hF | exact wideFn) (HS6'.out _ Bd.out) rfl (by kernel_rfl) (by kernel_rfl) (by kernel_rfl) (by kernel_rfl) rfl ?_ (by first | exact fun _ _ _ h => h | exact fun _ _ _ h => hQ2 _ _ _ _ _ h) ?_
  rotate_left
  · intro W hSW
    simp only [glA, glB, glC]
    (try dsimp only at hSW)
    go_simp
    with_reducible rfl
  (try simp only [glA, glB, glC, Act.put, glD, glE, glF])
  refine wpAnyJ_take 10 (v := ?_) (by first | exact hF | exact wideFn) (HS6'.out _ Bd.out) rfl (by kernel_rfl) (by kernel_rfl) (by kernel_rfl) (by kernel_rfl) rfl ?_ (by first | exact fun _ _ _ h => h | exact fun _ _ _ h => hQ2 _ _ _ _ _ h) ?_
  rotate_left
  · intro W hSW
    simp only [glA, glB, glC]
    (try dsimp only at hSW)
    go_simp
    with_reducible rfl
  (try simp only [glA, glB, glC, Act.put, glD, glE, glF])
  refine wpAnyJ_take 11 (v := ?_) (by first | exact hF | exact wideFn) (HS6'.out _ Bd.out) rfl (by kernel_rfl) (by kernel_rfl) (by kernel_rfl) (by kernel_rfl) rfl ?_ (by first | exact fun _ _ _ h => h | exact fun _ _ _ h => hQ2 _ _ _ _ _ h) ?_
  rotate_left
  · intro W hSW
    simp only [glA, glB, glC]
    (try dsimp only at hSW)
    go_simp
    with_reducible rfl
  (try simp only [glA, glB, glC, Act.put, glD, glE, glF])
  refine wpAnyJ_take 12 (v := ?_) (by first | exact hF | exact wideFn) (HS6'.out _ Bd.out) rfl (by kernel_rfl) (by kernel_rfl) (by kernel_rfl) (by kernel_rfl) rfl ?_ (by first | exact fun _ _ _ h => h | exact fun _ _ _ h => hQ2 _ _ _ _ _ h) ?_
  rotate_left
  · intro W hSW
    simp only [glA, glB, glC]
    (try dsimp only at hSW)
    go_simp
    with_reducible rfl
  (try simp only [glA, glB, glC, Act.put, glD, glE, glF])
  refine wpAnyJ_take 13 (v := ?_) (by first | exact hF | exact wideFn) (HS6'.out _ Bd.out) rfl (by kernel_rfl) (by kernel_rfl) (by kernel_rfl) (by kernel_rfl) rfl ?_ (by first | exact fun _ _ _ h => h | exact fun _ _ _ h => hQ2 _ _ _ _ _ h) ?_
  rotate_left
  · intro W hSW
    simp only [glA, glB, glC]
    (try dsimp only at hSW)
    go_simp
    with_reducible rfl
  (try simp only [glA, glB, glC, Act.put, glD, glE, glF])
  refine wpAnyJ_one 14 rfl (by kernel_rfl) (fun K hK => ?_)
  simp only [glA, glB, glC]
  go_simp
  refine ⟨trivial, rfl, ?_⟩
  (with_reducible refine (callsIn_wide.2 (HSP.out wd)).mono ?_)
  rintro e w3 ⟨rfl, hb3⟩
  have B3 := hide (Bd.out.trans (hb3.mono Bd.out.size))
  dsimp only
  refine hK.out _ _ (fun _ => HS6'.out _ B3.out) ?_
  clear hK K
  (try simp only [glA, glB, glC, Act.put, glD, glE, glF])
  refine wpAnyJ_take 15 (v := ?_) (by first | exact hF | exact wideFn) (HS6'.out _ B3.out) rfl (by kernel_rfl) (by kernel_rfl) (by kernel_rfl) (by kernel_rfl) rfl ?_ (by first | exact fun _ _ _ h => h | exact fun _ _ _ h => hQ2 _ _ _ _ _ h) ?_
  rotate_left
  · intro W hSW
    simp only [glA, glB, glC]
    (try dsimp only at hSW)
    go_simp
    with_reducible rfl
  (try simp only [glA, glB, glC, Act.put, glD, glE, glF])
  refine wpAnyJ_take 16 (v := ?_) (by first | exact hF | exact wideFn) (HS6'.out _ B3.out) rfl (by kernel_rfl) (by kernel_rfl) (by kernel_rfl) (by kernel_rfl) rfl ?_ (by first | exact fun _ _ _ h => h | exact fun _ _ _ h => hQ2 _ _ _ _ _ h) ?_
  rotate_left
  · intro W hSW
    simp only [glA, glB, glC]
    (try dsimp only at hSW)
    go_simp
    with_reducible rfl
  (try simp only [glA, glB, glC, Act.put, glD, glE, glF])
  refine wpAnyJ_done (by kernel_rfl) ?_
  go_wp2_with fail
  go_ret2
  exact ⟨rfl, HB2.out.trans (B3.out.mono HB2.out.size)⟩
end Go.Proofs.YtmpegkojencbjaaDoor
