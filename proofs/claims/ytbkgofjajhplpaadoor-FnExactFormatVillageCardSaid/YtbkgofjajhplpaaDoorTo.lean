/- The law side's own helpers on slices of ints: copy, compare, mark, look. -/
import Derived.Test.YtbkgofjajhplpaaDoorApp
import Derived.Test.YtbkgofjajhplpaaDoorProg
namespace Go.Proofs.YtbkgofjajhplpaaDoor
set_option linter.unusedSimpArgs false
set_option linter.unusedVariables false
open Go.RowKit
theorem madeI (n : Nat) : (madeCells #[Value.int .i64 0] n).toList = ints (List.replicate n 0) := by
  unfold ints madeCells
  rw [List.map_replicate]
  apply List.ext_getElem (by simp)
  intro i h1 h2
  simp [Nat.mod_one]
def tk (l : List Int) (k : Nat) : List Int := l.take k ++ List.replicate (l.length - k) 0
theorem tk_len (l : List Int) (k : Nat) (h : k ≤ l.length) : (tk l k).length = l.length := by
  unfold tk; rw [List.length_append, List.length_take, List.length_replicate, Nat.min_eq_left h]; omega
theorem tk_succ {l : List Int} {k : Nat} {x : Int} (h : l[k]? = some x) : (tk l k).set k x = tk l (k + 1) := by
  obtain ⟨hk, rfl⟩ := List.getElem?_eq_some_iff.1 h
  unfold tk
  have e : l.length - k = (l.length - (k + 1)) + 1 := by omega
  have e2 : (l.take k).length = k := by rw [List.length_take]; omega
  rw [e, List.replicate_succ, List.set_append_right _ _ (by omega), e2, Nat.sub_self, List.set_cons_zero, List.take_add_one, h, List.append_assoc]
  rfl
theorem tk_all (l : List Int) : tk l l.length = l := by simp [tk]
def marks (k n : Nat) : List Int := (List.range' k n).map Int.ofNat
theorem marks_len (k n : Nat) : (marks k n).length = n := by simp [marks]
theorem marks_succ (k n : Nat) : marks k (n + 1) = marks k n ++ [((k + n : Nat) : Int)] := by
  unfold marks; rw [List.range'_concat]; simp
theorem marks_cons (k n : Nat) : marks k (n + 1) = (k : Int) :: marks (k + 1) n := by
  unfold marks; rw [List.range'_succ]; rfl
def mk (l : List Int) (k i : Nat) : List Int := marks k i ++ l.drop i
theorem mk_len (l : List Int) (k i : Nat) (h : i ≤ l.length) : (mk l k i).length = l.length := by simp [mk, marks_len]; omega
theorem mk_zero (l : List Int) (k : Nat) : mk l k 0 = l := rfl
theorem mk_all (l : List Int) (k : Nat) : mk l k l.length = marks k l.length := by simp [mk]
theorem mk_succ (l : List Int) (k i : Nat) (h : i < l.length) : (mk l k i).set i ((k + i : Nat) : Int) = mk l k (i + 1) := by
  unfold mk
  rw [List.set_append_right _ _ (by rw [marks_len]; omega), marks_len, Nat.sub_self, List.drop_eq_getElem_cons h, List.set_cons_zero, marks_succ, List.append_assoc]
  rfl
end Go.Proofs.YtbkgofjajhplpaaDoor
