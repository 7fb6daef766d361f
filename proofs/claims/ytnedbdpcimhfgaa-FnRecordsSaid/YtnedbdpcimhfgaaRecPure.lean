/- Half of the years are not below the middle one, records rise: plain lists. -/
import Derived.Test.YtnedbdpcimhfgaaLong
import Derived.Test.YtnedbdpcimhfgaaYears
namespace Go.Proofs.Ytnedbdpcimhfgaa
open Go.RowKit
/-- How many are above z. -/
def cntA : List Int → Int → Int
  | [], _ => 0
  | x :: l, z => (if z < x then 1 else 0) + cntA l z
theorem cntA_cons (x : Int) (l : List Int) (z : Int) : cntA (x :: l) z = (if z < x then 1 else 0) + cntA l z := rfl
theorem cnt_cons (x : Int) (l : List Int) (z : Int) : cnt (x :: l) z = if x < z then 1 + cnt l z else cnt l z := by
  show (if x < z then 1 else 0) + cnt l z = _
  split <;> omega
theorem cnt_append : ∀ (l m : List Int) (z : Int), cnt (l ++ m) z = cnt l z + cnt m z
  | [], m, z => by simp [cnt]
  | x :: l, m, z => by
    rw [List.cons_append, cnt_cons, cnt_cons, cnt_append l m z]
    split <;> omega
theorem cntA_append : ∀ (l m : List Int) (z : Int), cntA (l ++ m) z = cntA l z + cntA m z
  | [], m, z => by simp [cntA]
  | x :: l, m, z => by
    rw [List.cons_append, cntA_cons, cntA_cons, cntA_append l m z]
    omega
theorem cnt_perm {l m : List Int} (h : l.Perm m) (z : Int) : cnt l z = cnt m z := by
  induction h with
  | nil => rfl
  | cons x _ ih => rw [cnt_cons, cnt_cons, ih]
  | swap x y l => rw [cnt_cons, cnt_cons, cnt_cons, cnt_cons]; split <;> split <;> omega
  | trans _ _ h1 h2 => exact h1.trans h2
theorem cntA_perm {l m : List Int} (h : l.Perm m) (z : Int) : cntA l z = cntA m z := by
  induction h with
  | nil => rfl
  | cons x _ ih => rw [cntA_cons, cntA_cons, ih]
  | swap x y l => rw [cntA_cons, cntA_cons, cntA_cons, cntA_cons]; omega
  | trans _ _ h1 h2 => exact h1.trans h2
theorem cnt_none : ∀ (l : List Int) (z : Int), (∀ x ∈ l, z ≤ x) → cnt l z = 0
  | [], _, _ => rfl
  | x :: l, z, h => by
    rw [cnt_cons, if_neg (by have := h x (List.mem_cons_self ..); omega)]
    exact cnt_none l z fun y hy => h y (List.mem_cons_of_mem _ hy)
theorem cntA_none : ∀ (l : List Int) (z : Int), (∀ x ∈ l, x ≤ z) → cntA l z = 0
  | [], _, _ => rfl
  | x :: l, z, h => by
    rw [cntA_cons, if_neg (by have := h x (List.mem_cons_self ..); omega), cntA_none l z fun y hy => h y (List.mem_cons_of_mem _ hy)]
    rfl
theorem cntA_le : ∀ (l : List Int) (z : Int), 0 ≤ cntA l z ∧ cntA l z ≤ l.length
  | [], _ => by simp [cntA]
  | x :: l, z => by
    have := cntA_le l z
    rw [cntA_cons, List.length_cons]
    split <;> omega
/-- In a rising list the number of those below the k-th is at most k; at most n - 1 - k stand above it. -/
theorem cnt_at {s : List Int} (h : Asc s) {k : Nat} {x : Int} (hk : s[k]? = some x) : cnt s x ≤ k ∧ cntA s x ≤ s.length - 1 - k := by
  have hkl := (List.getElem?_eq_some_iff.1 hk).1
  have e : s = s.take k ++ x :: s.drop (k + 1) := by rw [← drop_cons hk, List.take_append_drop]
  constructor
  · have h1 : cnt (x :: s.drop (k + 1)) x = 0 := cnt_none _ _ fun y hy => by
      rcases List.mem_cons.1 hy with rfl | hy
      · exact Int.le_refl _
      · obtain ⟨i, hi⟩ := List.mem_iff_getElem?.1 hy
        rw [List.getElem?_drop] at hi
        exact asc_le h (show k ≤ k + 1 + i by omega) hk hi
    have h2 := cnt_le (s.take k) x
    rw [List.length_take] at h2
    have h3 : cnt s x = cnt (s.take k) x + cnt (x :: s.drop (k + 1)) x := by rw [← cnt_append, ← e]
    omega
  · have h1 : cntA (s.take k ++ [x]) x = 0 := cntA_none _ _ fun y hy => by
      rcases List.mem_append.1 hy with hy | hy
      · obtain ⟨i, hi⟩ := List.mem_iff_getElem?.1 hy
        have hik : i < k := by
          have := (List.getElem?_eq_some_iff.1 hi).1
          rw [List.length_take] at this; omega
        rw [List.getElem?_take_of_lt hik] at hi
        exact asc_le h (show i ≤ k by omega) hi hk
      · simp at hy; omega
    have h2 := (cntA_le (s.drop (k + 1)) x).2
    rw [List.length_drop] at h2
    have e2 : s = (s.take k ++ [x]) ++ s.drop (k + 1) := by rw [List.append_assoc]; exact e
    have h3 : cntA s x = cntA (s.take k ++ [x]) x + cntA (s.drop (k + 1)) x := by rw [← cntA_append, ← e2]
    omega
/-- The number of those below x is x's own place in the sorted list. -/
theorem cnt_place : ∀ {s : List Int}, Asc s → ∀ {x : Int}, x ∈ s → ∃ a : Nat, cnt s x = (a : Int) ∧ a < s.length ∧ s[a]? = some x
  | [], _, x, h => by cases h
  | y :: s, hs, x, h => by
    have hs' : y ≤ x ∨ x ∈ s := by
      rcases List.mem_cons.1 h with rfl | h
      · exact .inl (Int.le_refl _)
      · exact .inr h
    have hle : ∀ z ∈ s, y ≤ z := fun z hz => by
      have := List.pairwise_cons.1 (asc_iff.1 hs)
      exact this.1 z hz
    by_cases hyx : y < x
    · have hxs : x ∈ s := by
        rcases List.mem_cons.1 h with rfl | h
        · omega
        · exact h
      obtain ⟨a, h1, h2, h3⟩ := cnt_place (asc_iff.2 (List.pairwise_cons.1 (asc_iff.1 hs)).2) hxs
      exact ⟨a + 1, by rw [cnt_cons, if_pos hyx, h1]; omega, by simp; omega, by simpa using h3⟩
    · have hyx' : x ≤ y := by omega
      have hex : y = x := by
        rcases List.mem_cons.1 h with e | h
        · exact e.symm
        · have := hle x h; omega
      subst hex
      refine ⟨0, ?_, by simp, rfl⟩
      rw [cnt_cons, if_neg (by omega)]
      exact cnt_none _ _ hle
theorem rank_place {y : List Int} (hy : yearsOk y = true) {k : Nat} {x : Int} (hk : y[k]? = some x) : ∃ a : Nat, rankOf y k = (a : Int) ∧ a < y.length ∧ (sortedY y)[a]? = some x := by
  have hkl := (List.getElem?_eq_some_iff.1 hk).1
  have h1 : x ∈ y.mergeSort leI := sort_mem.2 (List.mem_of_getElem? hk)
  obtain ⟨a, h2, h3, h4⟩ := cnt_place (sort_asc y) h1
  rw [sort_len] at h3
  refine ⟨a, ?_, h3, by rw [sortedY_yes hy]; exact h4⟩
  unfold rankOf
  rw [hy, inB_iff.2 (by omega), Int.toNat_natCast, getD_of hk, ← h2]
  exact cnt_perm (List.mergeSort_perm y leI).symm x
theorem middle_half {y : List Int} (hy : yearsOk y = true) : 2 * cnt y (middleY y) ≤ y.length ∧ 2 * cntA y (middleY y) ≤ y.length := by
  obtain ⟨x, h1, h2, _, _⟩ := middleY_yes hy
  rw [h2]
  rw [sortedY_yes hy] at h1
  have h3 := cnt_at (sort_asc y) h1
  rw [cnt_perm (List.mergeSort_perm y leI), cntA_perm (List.mergeSort_perm y leI), sort_len] at h3
  have := yearsOk_iff hy
  omega
/-- Records: each place is in range, behind the one before, and its number is greater. -/
theorem rec_step : ∀ (l : List Int) (k : Nat) (most : Int) (y : List Int), y.drop k = l → ∀ (i : Nat) (a b : Int), (recGo l k most)[i]? = some a → (recGo l k most)[i + 1]? = some b → ∃ (p q : Nat) (u v : Int), a = (p : Int) ∧ b = (q : Int) ∧ p < q ∧ q < y.length ∧ y[p]? = some u ∧ y[q]? = some v ∧ u < v
  | [], _, _, _, _, i, a, b, h, _ => by simp [recGo] at h
  | x :: l, k, most, y, hy, i, a, b, ha, hb => by
    have hx : y[k]? = some x := by
      have : (y.drop k)[0]? = some x := by rw [hy]; rfl
      simpa using this
    have hl : y.drop (k + 1) = l := by
      have : (y.drop k).drop 1 = l := by rw [hy]; rfl
      simpa [List.drop_drop] using this
    rw [recGo_cons] at ha hb
    split at ha
    case isTrue hm =>
      rw [if_pos hm] at hb
      cases i with
      | zero =>
        simp at ha
        have hb' : (recGo l (k + 1) x)[0]? = some b := by simpa using hb
        obtain ⟨q, v, h1, h2, h3, h4⟩ := rec_first l (k + 1) x y hl b hb'
        exact ⟨k, q, x, v, ha.symm, h1, by omega, (List.getElem?_eq_some_iff.1 h3).1, hx, h3, h4⟩
      | succ i => exact rec_step l (k + 1) x y hl i a b (by simpa using ha) (by simpa using hb)
    case isFalse hm =>
      rw [if_neg hm] at hb
      exact rec_step l (k + 1) most y hl i a b ha hb
where
  rec_first : ∀ (l : List Int) (k : Nat) (most : Int) (y : List Int), y.drop k = l → ∀ (b : Int), (recGo l k most)[0]? = some b → ∃ (q : Nat) (v : Int), b = (q : Int) ∧ k ≤ q ∧ y[q]? = some v ∧ most < v
  | [], _, _, _, _, b, h => by simp [recGo] at h
  | x :: l, k, most, y, hy, b, hb => by
    have hx : y[k]? = some x := by
      have : (y.drop k)[0]? = some x := by rw [hy]; rfl
      simpa using this
    have hl : y.drop (k + 1) = l := by
      have : (y.drop k).drop 1 = l := by rw [hy]; rfl
      simpa [List.drop_drop] using this
    rw [recGo_cons] at hb
    split at hb
    case isTrue hm =>
      simp at hb
      exact ⟨k, x, hb.symm, Nat.le_refl _, hx, hm⟩
    case isFalse hm =>
      obtain ⟨q, v, h1, h2, h3, h4⟩ := rec_first l (k + 1) most y hl b hb
      exact ⟨q, v, h1, by omega, h3, h4⟩
theorem records_first {y : List Int} (hy : yearsOk y = true) : ∃ t, records y = 0 :: t := by
  have h := yearsOk_iff hy
  unfold records
  rw [if_pos hy]
  cases y with
  | nil => simp at h
  | cons x l =>
    have hx : 0 ≤ x := (allIn_mem h.1 (k := 0) rfl).1
    rw [recGo_cons, if_pos (by omega)]
    exact ⟨_, rfl⟩
theorem records_step {y : List Int} (hy : yearsOk y = true) {i : Nat} {a b : Int} (ha : (records y)[i]? = some a) (hb : (records y)[i + 1]? = some b) : ∃ (p q : Nat) (u v : Int), a = (p : Int) ∧ b = (q : Int) ∧ p < q ∧ q < y.length ∧ y[p]? = some u ∧ y[q]? = some v ∧ u < v := by
  unfold records at ha hb
  rw [if_pos hy] at ha hb
  exact rec_step y 0 (-1) y rfl i a b ha hb
theorem records_len (y : List Int) : (records y).length ≤ y.length := by
  unfold records
  split
  · exact recGo_len _ _ _
  · simp
/-- A place is among the dry ones if its number is low. -/
theorem dryGo_mem (t : Int) : ∀ (l : List Int) (k j : Nat) (x : Int), l[j]? = some x → ((((k + j : Nat) : Int) ∈ dryGo t l k) ↔ x * 100 < t)
  | [], k, j, x, h => by simp at h
  | z :: l, k, 0, x, h => by
    simp at h
    subst h
    rw [dryGo_cons, Nat.add_zero]
    by_cases hz : z * 100 < t
    · simp [hz]
    · rw [if_neg hz]
      constructor
      · intro hm
        obtain ⟨q, h1, h2, _⟩ := dryGo_ge t l (k + 1) _ hm
        omega
      · exact fun h => absurd h hz
  | z :: l, k, j + 1, x, h => by
    have ih := dryGo_mem t l (k + 1) j x (by simpa using h)
    have e : k + 1 + j = k + (j + 1) := by omega
    rw [e] at ih
    rw [dryGo_cons]
    by_cases hz : z * 100 < t
    · rw [if_pos hz, List.mem_cons, ih]
      constructor
      · rintro (h | h)
        · omega
        · exact h
      · exact .inr
    · rw [if_neg hz]; exact ih
theorem dryY_has {y : List Int} {p : Int} (hy : yearsOk y = true) (hp : inB p 0 100 = true) {k : Nat} {x : Int} (hk : y[k]? = some x) : decide ((k : Int) ∈ dryY y p) = decide (x * 100 < p * middleY y) := by
  rw [dryY_yes hy hp]
  have := dryGo_mem (p * middleY y) y 0 k x hk
  rw [Nat.zero_add] at this
  exact decide_eq_decide.2 this
theorem dryY_zero {y : List Int} (hy : yearsOk y = true) : dryY y 0 = [] := by
  rw [dryY_yes hy (by decide), Int.zero_mul]
  have hall := (yearsOk_iff hy).1
  have key : ∀ (l : List Int) (k : Nat), (∀ x ∈ l, 0 ≤ x) → dryGo 0 l k = [] := by
    intro l
    induction l with
    | nil => intro k _; rfl
    | cons x l ih =>
      intro k h
      rw [dryGo_cons, if_neg (by have := h x (List.mem_cons_self ..); omega)]
      exact ih (k + 1) fun z hz => h z (List.mem_cons_of_mem _ hz)
  exact key y 0 fun x hx => by
    obtain ⟨i, hi⟩ := List.mem_iff_getElem?.1 hx
    exact (allIn_mem hall hi).1
/-- The longest run of low numbers, read off the numbers themselves. -/
def runGo (t : Int) : List Int → Int → Int → Int
  | [], _, most => most
  | x :: l, run, most => if x * 100 < t then runGo t l (run + 1) (max most (run + 1)) else runGo t l 0 (max most 0)
theorem runGo_cons (t x : Int) (l : List Int) (run most : Int) : runGo t (x :: l) run most = if x * 100 < t then runGo t l (run + 1) (max most (run + 1)) else runGo t l 0 (max most 0) := rfl
theorem lon_run (t : Int) : ∀ (l : List Int) (k : Nat) (best n last run : Int), 0 ≤ best → (run = n ∧ last = (k : Int) - 1) ∨ (run = 0 ∧ last < (k : Int) - 1) → lonGo (dryGo t l k) best n last = runGo t l run best
  | [], _, _, _, _, _, _, _ => rfl
  | x :: l, k, best, n, last, run, hb, h => by
    rw [dryGo_cons, runGo_cons]
    by_cases hx : x * 100 < t
    · rw [if_pos hx, if_pos hx, lonGo_cons]
      rcases h with ⟨h1, h2⟩ | ⟨h1, h2⟩
      · rw [if_pos (by omega), h1]
        exact lon_run t l (k + 1) _ _ _ _ (Int.le_trans hb (Int.le_max_left ..)) (.inl ⟨rfl, by omega⟩)
      · rw [if_neg (by omega), h1]
        exact lon_run t l (k + 1) _ _ _ _ (Int.le_trans hb (Int.le_max_left ..)) (.inl ⟨by omega, by omega⟩)
    · rw [if_neg hx, if_neg hx]
      have e : max best 0 = best := by omega
      rw [e]
      refine lon_run t l (k + 1) _ _ _ _ hb (.inr ⟨rfl, ?_⟩)
      rcases h with ⟨_, h2⟩ | ⟨_, h2⟩ <;> omega
theorem longY_run {y : List Int} {p : Int} (hy : yearsOk y = true) (hp : inB p 0 100 = true) : longY y p = runGo (p * middleY y) y 0 0 := by
  rw [longY_yes hy hp, dryY_yes hy hp]
  exact lon_run _ _ _ _ _ _ _ (Int.le_refl _) (.inr ⟨rfl, by omega⟩)
end Go.Proofs.Ytnedbdpcimhfgaa
