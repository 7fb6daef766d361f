/- Marks in a slice of events, and the look for them. -/
import Derived.Test.YtpmmjhpmheooeaaDoorTo3
namespace Go.Proofs.YtpmmjhpmheooeaaDoor
set_option linter.unusedSimpArgs false
set_option linter.unusedVariables false
open Go.RowKit
def tm (k : Nat) : T3 := ⟨(k : Int), (k : Int) + 1, (k : Int) + 2⟩
def marksT (k n : Nat) : List T3 := (List.range n).map fun i => tm (k + 3 * i)
theorem marksT_len (k n : Nat) : (marksT k n).length = n := by simp [marksT]
theorem marksT_succ (k n : Nat) : marksT k (n + 1) = marksT k n ++ [tm (k + 3 * n)] := by
  unfold marksT; rw [List.range_succ]; simp
theorem marksT_get (k n j : Nat) (h : j < n) : (marksT k n)[j]? = some (tm (k + 3 * j)) := by
  unfold marksT; rw [List.getElem?_map, List.getElem?_range h]; rfl
def mkT (l : List T3) (k i : Nat) : List T3 := marksT k i ++ l.drop i
theorem mkT_len (l : List T3) (k i : Nat) (h : i ≤ l.length) : (mkT l k i).length = l.length := by simp [mkT, marksT_len]; omega
theorem mkT_all (l : List T3) (k : Nat) : mkT l k l.length = marksT k l.length := by simp [mkT]
theorem mkT_succ (l : List T3) (k i : Nat) (h : i < l.length) : (mkT l k i).set i (tm (k + 3 * i)) = mkT l k (i + 1) := by
  unfold mkT
  rw [List.set_append_right _ _ (by rw [marksT_len]; omega), marksT_len, Nat.sub_self, List.drop_eq_getElem_cons h, List.set_cons_zero, marksT_succ, List.append_assoc]
  rfl
end Go.Proofs.YtpmmjhpmheooeaaDoor
