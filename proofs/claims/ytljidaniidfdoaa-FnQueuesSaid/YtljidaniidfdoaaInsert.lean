/- Insertion from the right: plain lists. -/
import Derived.Test.YtljidaniidfdoaaBase
namespace Go.Proofs.Ytljidaniidfdoaa
open Go.RowKit
def posGo (lt : Int → Int → Bool) (pre : List Int) (x : Int) : Nat → Nat
  | 0 => 0
  | p + 1 => if lt x (pre.getD p 0) then posGo lt pre x p else p + 1
theorem posGo_succ (lt : Int → Int → Bool) (pre : List Int) (x : Int) (p : Nat) : posGo lt pre x (p + 1) = if lt x (pre.getD p 0) then posGo lt pre x p else p + 1 := rfl
theorem posGo_le (lt : Int → Int → Bool) (pre : List Int) (x : Int) : ∀ p, posGo lt pre x p ≤ p
  | 0 => Nat.le_refl _
  | p + 1 => by
    rw [posGo_succ]
    split
    · have := posGo_le lt pre x p; omega
    · exact Nat.le_refl _
/-- pre with x put at place p. -/
def putAt (pre : List Int) (x : Int) (p : Nat) : List Int := pre.take p ++ x :: pre.drop p
def insr (lt : Int → Int → Bool) (pre : List Int) (x : Int) : List Int := putAt pre x (posGo lt pre x pre.length)
def insAll (lt : Int → Int → Bool) (l : List Int) : List Int := l.foldl (insr lt) []
theorem putAt_len (pre : List Int) (x : Int) (p : Nat) : (putAt pre x p).length = pre.length + 1 := by
  unfold putAt; simp; omega
theorem putAt_end (pre : List Int) (x : Int) : putAt pre x pre.length = pre ++ [x] := by unfold putAt; simp
theorem putAt_get (pre : List Int) (x : Int) (p : Nat) (h : p ≤ pre.length) : (putAt pre x p)[p]? = some x := by
  unfold putAt
  rw [List.getElem?_append_right (by simp; omega)]
  have : p - (pre.take p).length = 0 := by simp; omega
  rw [this]; rfl
theorem putAt_before (pre : List Int) (x : Int) (p : Nat) (h : p < pre.length) : (putAt pre x (p + 1))[p]? = some (pre.getD p 0) := by
  unfold putAt
  rw [List.getElem?_append_left (by simp; omega), List.getElem?_take_of_lt (by omega)]
  simp [List.getD, List.getElem?_eq_getElem h]
theorem putAt_swap (pre : List Int) (x : Int) (p : Nat) (h : p < pre.length) : ((putAt pre x (p + 1)).set (p + 1) (pre.getD p 0)).set p x = putAt pre x p := by
  unfold putAt
  have e1 : pre.take (p + 1) = pre.take p ++ [pre.getD p 0] := by
    rw [List.take_succ_eq_append_getElem h]; simp [List.getD, List.getElem?_eq_getElem h]
  have e2 : pre.drop p = pre.getD p 0 :: pre.drop (p + 1) := by
    rw [List.drop_eq_getElem_cons h]; simp [List.getD, List.getElem?_eq_getElem h]
  have l1 : (pre.take p).length = p := by simp; omega
  rw [e1, e2, List.set_append_right _ _ (by simp; omega)]
  have l2 : p + 1 - (pre.take p ++ [pre.getD p 0]).length = 0 := by simp; omega
  rw [l2, List.set_cons_zero, List.append_assoc, List.set_append_right _ _ (by omega)]
  have l3 : p - (pre.take p).length = 0 := by omega
  rw [l3]; rfl
theorem putAt_shift (pre : List Int) (y : Int) (p : Nat) (h : p < pre.length) : (putAt pre y (p + 1)).set (p + 1) (pre.getD p 0) = putAt pre (pre.getD p 0) p := by
  unfold putAt
  have e1 : pre.take (p + 1) = pre.take p ++ [pre.getD p 0] := by
    rw [List.take_succ_eq_append_getElem h]; simp [List.getD, List.getElem?_eq_getElem h]
  have e2 : pre.drop p = pre.getD p 0 :: pre.drop (p + 1) := by
    rw [List.drop_eq_getElem_cons h]; simp [List.getD, List.getElem?_eq_getElem h]
  have l1 : (pre.take p).length = p := by simp; omega
  rw [e1, List.set_append_right _ _ (by simp; omega)]
  have l2 : p + 1 - (pre.take p ++ [pre.getD p 0]).length = 0 := by simp; omega
  rw [l2, List.set_cons_zero, List.append_assoc, e2]; rfl
theorem putAt_set (pre : List Int) (y x : Int) (p : Nat) (h : p ≤ pre.length) : (putAt pre y p).set p x = putAt pre x p := by
  unfold putAt
  have l1 : (pre.take p).length = p := by simp; omega
  rw [List.set_append_right _ _ (by omega)]
  have l3 : p - (pre.take p).length = 0 := by omega
  rw [l3]; rfl
theorem insr_len (lt : Int → Int → Bool) (pre : List Int) (x : Int) : (insr lt pre x).length = pre.length + 1 := putAt_len _ _ _
theorem putAt_mem (pre : List Int) (x : Int) (p : Nat) (y : Int) : y ∈ putAt pre x p ↔ y = x ∨ y ∈ pre := by
  unfold putAt
  rw [List.mem_append, List.mem_cons]
  have : y ∈ pre ↔ y ∈ pre.take p ∨ y ∈ pre.drop p := by rw [← List.mem_append, List.take_append_drop]
  rw [this]
  constructor
  · rintro (h | h | h)
    · exact .inr (.inl h)
    · exact .inl h
    · exact .inr (.inr h)
  · rintro (h | h | h)
    · exact .inr (.inl h)
    · exact .inl h
    · exact .inr (.inr h)
theorem insFold_snoc (lt : Int → Int → Bool) (l : List Int) (x : Int) : insAll lt (l ++ [x]) = insr lt (insAll lt l) x := by
  unfold insAll; rw [List.foldl_append]; rfl
theorem insAll_len (lt : Int → Int → Bool) : ∀ n (l : List Int), l.length = n → (insAll lt l).length = n
  | 0, l, h => by
    have : l = [] := List.eq_nil_of_length_eq_zero h
    subst this; rfl
  | n + 1, l, h => by
    have hl : l ≠ [] := by intro e; subst e; cases h
    rw [← List.dropLast_concat_getLast hl, insFold_snoc, insr_len, insAll_len lt n l.dropLast (by simp; omega)]
theorem insAll_length (lt : Int → Int → Bool) (l : List Int) : (insAll lt l).length = l.length := insAll_len lt _ l rfl
theorem insAll_mem' (lt : Int → Int → Bool) (y : Int) : ∀ n (l : List Int), l.length = n → (y ∈ insAll lt l ↔ y ∈ l)
  | 0, l, h => by
    have : l = [] := List.eq_nil_of_length_eq_zero h
    subst this; rfl
  | n + 1, l, h => by
    have hl : l ≠ [] := by intro e; subst e; cases h
    have e := List.dropLast_concat_getLast hl
    have ih := insAll_mem' lt y n l.dropLast (by simp; omega)
    conv => lhs; rw [← e, insFold_snoc]
    conv => rhs; rw [← e]
    unfold insr
    rw [putAt_mem, ih, List.mem_append, List.mem_singleton]
    exact ⟨fun h => h.symm, fun h => h.symm⟩
theorem insAll_mem (lt : Int → Int → Bool) (l : List Int) (y : Int) : y ∈ insAll lt l ↔ y ∈ l := insAll_mem' lt y _ l rfl
theorem take_snocI (l : List Int) (k : Nat) (x : Int) (h : l[k]? = some x) : l.take (k + 1) = l.take k ++ [x] := by
  obtain ⟨hk, rfl⟩ := List.getElem?_eq_some_iff.1 h
  rw [List.take_succ_eq_append_getElem hk]
/-- The numbers from 0 on, n of them. -/
def upto (n : Nat) : List Int := (List.range n).map Int.ofNat
theorem upto_len (n : Nat) : (upto n).length = n := by simp [upto]
theorem upto_get {n k : Nat} (h : k < n) : (upto n)[k]? = some (k : Int) := by unfold upto; simp [h]
theorem upto_succ (n : Nat) : upto (n + 1) = upto n ++ [(n : Int)] := by unfold upto; rw [List.range_succ, List.map_append]; rfl
theorem upto_mem {n : Nat} {x : Int} (h : x ∈ upto n) : ∃ k : Nat, x = (k : Int) ∧ k < n := by
  unfold upto at h
  obtain ⟨k, hk, rfl⟩ := List.mem_map.1 h
  exact ⟨k, rfl, List.mem_range.1 hk⟩
end Go.Proofs.Ytljidaniidfdoaa
