/- Insertion from the right sorts: plain lists. -/
import Derived.Test.YtljidaniidfdoaaInsert
namespace Go.Proofs.Ytljidaniidfdoaa
open Go.RowKit
def ltI (x y : Int) : Bool := decide (x < y)
def leI (x y : Int) : Bool := decide (x ≤ y)
def Asc (l : List Int) : Prop := l.Pairwise (fun a b => leI a b = true)
theorem asc_iff {l : List Int} : Asc l ↔ l.Pairwise (fun a b => a ≤ b) := by unfold Asc leI; simp
theorem asc_le {l : List Int} (h : Asc l) {i j : Nat} {x y : Int} (hij : i ≤ j) (hx : l[i]? = some x) (hy : l[j]? = some y) : x ≤ y := by
  have h' := asc_iff.1 h
  obtain ⟨hi, rfl⟩ := List.getElem?_eq_some_iff.1 hx
  obtain ⟨hj, rfl⟩ := List.getElem?_eq_some_iff.1 hy
  rcases Nat.lt_or_ge i j with h1 | h1
  · exact List.pairwise_iff_getElem.1 h' i j hi hj h1
  · have e : i = j := by omega
    subst e
    exact Int.le_refl _
theorem posI_spec (pre : List Int) (x : Int) : ∀ n, n ≤ pre.length → (∀ j y, posGo ltI pre x n ≤ j → j < n → pre[j]? = some y → x < y) ∧ (posGo ltI pre x n = 0 ∨ ∃ q y, posGo ltI pre x n = q + 1 ∧ pre[q]? = some y ∧ y ≤ x)
  | 0, _ => ⟨fun j y _ h _ => by omega, .inl rfl⟩
  | n + 1, h => by
    rw [posGo_succ]
    have hg : pre[n]? = some (pre.getD n 0) := by simp [List.getD, List.getElem?_eq_getElem (show n < pre.length by omega)]
    have ih := posI_spec pre x n (by omega)
    split
    case isTrue hl =>
      unfold ltI at hl
      simp only [decide_eq_true_eq] at hl
      refine ⟨fun j y h1 h2 h3 => ?_, ih.2⟩
      rcases Nat.lt_or_ge j n with h4 | h4
      · exact ih.1 j y h1 h4 h3
      · have e : j = n := by omega
        subst e
        rw [hg] at h3
        have := Option.some.inj h3
        omega
    case isFalse hl =>
      unfold ltI at hl
      simp only [decide_eq_true_eq] at hl
      exact ⟨fun j y h1 h2 _ => by omega, .inr ⟨n, _, rfl, hg, by omega⟩⟩
theorem insr_asc {pre : List Int} (x : Int) (h : Asc pre) : Asc (insr ltI pre x) := by
  obtain ⟨h1, h2⟩ := posI_spec pre x pre.length (Nat.le_refl _)
  have hp := posGo_le ltI pre x pre.length
  unfold insr
  generalize hq : posGo ltI pre x pre.length = p at *
  rw [asc_iff]
  unfold putAt
  rw [List.pairwise_append, List.pairwise_cons]
  have ha := asc_iff.1 h
  have hlo : ∀ y ∈ pre.take p, y ≤ x := fun y hy => by
    obtain ⟨i, hi⟩ := List.mem_iff_getElem?.1 hy
    have hip : i < p := by
      have := (List.getElem?_eq_some_iff.1 hi).1
      rw [List.length_take] at this; omega
    rw [List.getElem?_take_of_lt hip] at hi
    rcases h2 with h2 | ⟨q, z, h2, h3, h4⟩
    · omega
    · have := asc_le h (show i ≤ q by omega) hi h3; omega
  have hhi : ∀ y ∈ pre.drop p, x < y := fun y hy => by
    obtain ⟨i, hi⟩ := List.mem_iff_getElem?.1 hy
    rw [List.getElem?_drop] at hi
    exact h1 (p + i) y (by omega) (List.getElem?_eq_some_iff.1 hi).1 hi
  refine ⟨ha.sublist (List.take_sublist ..), ⟨fun y hy => Int.le_of_lt (hhi y hy), ha.sublist (List.drop_sublist ..)⟩, fun a ha b hb => ?_⟩
  rcases List.mem_cons.1 hb with rfl | hb
  · exact hlo a ha
  · have := hlo a ha; have := hhi b hb; omega
theorem putAt_perm (pre : List Int) (x : Int) (p : Nat) : (putAt pre x p).Perm (pre ++ [x]) := by
  unfold putAt
  refine List.perm_middle.trans ?_
  rw [List.take_append_drop]
  exact (List.perm_append_singleton x pre).symm
theorem insAll_perm (lt : Int → Int → Bool) : ∀ n (l : List Int), l.length = n → (insAll lt l).Perm l
  | 0, l, h => by
    have : l = [] := List.eq_nil_of_length_eq_zero h
    subst this; exact List.Perm.refl _
  | n + 1, l, h => by
    have hl : l ≠ [] := by intro e; subst e; cases h
    have e := List.dropLast_concat_getLast hl
    have ih := insAll_perm lt n l.dropLast (by simp; omega)
    have : (insAll lt (l.dropLast ++ [l.getLast hl])).Perm (l.dropLast ++ [l.getLast hl]) := by
      rw [insFold_snoc]
      exact (putAt_perm _ _ _).trans (List.Perm.append_right _ ih)
    rw [e] at this
    exact this
theorem insAll_asc : ∀ n (l : List Int), l.length = n → Asc (insAll ltI l)
  | 0, l, h => by
    have : l = [] := List.eq_nil_of_length_eq_zero h
    subst this; exact List.Pairwise.nil
  | n + 1, l, h => by
    have hl : l ≠ [] := by intro e; subst e; cases h
    have e := List.dropLast_concat_getLast hl
    have ih := insAll_asc n l.dropLast (by simp; omega)
    have := insr_asc (l.getLast hl) ih
    rw [← insFold_snoc, e] at this
    exact this
theorem leI_trans : ∀ a b c : Int, leI a b = true → leI b c = true → leI a c = true := fun a b c h1 h2 => by simp only [leI, decide_eq_true_eq] at *; omega
theorem leI_total : ∀ a b : Int, (leI a b || leI b a) = true := fun a b => by simp only [leI, Bool.or_eq_true, decide_eq_true_eq]; omega
theorem sort_asc (l : List Int) : Asc (l.mergeSort leI) := List.pairwise_mergeSort leI_trans leI_total l
theorem asc_unique {l m : List Int} (hp : l.Perm m) (h1 : Asc l) (h2 : Asc m) : l = m :=
  List.Perm.eq_of_pairwise (le := fun a b => leI a b = true) (fun a b _ _ h1 h2 => by simp only [leI, decide_eq_true_eq] at h1 h2; omega) h1 h2 hp
/-- Insertion and the library's sort come to one list. -/
theorem insAll_sort (l : List Int) : insAll ltI l = l.mergeSort leI :=
  asc_unique ((insAll_perm ltI _ l rfl).trans (List.mergeSort_perm l leI).symm) (insAll_asc _ l rfl) (sort_asc l)
theorem sort_len (l : List Int) : (l.mergeSort leI).length = l.length := List.length_mergeSort l
theorem sort_mem {l : List Int} {x : Int} : x ∈ l.mergeSort leI ↔ x ∈ l := (List.mergeSort_perm l leI).mem_iff
end Go.Proofs.Ytljidaniidfdoaa
