/- slices.Delete and slices.Insert on rows of rights that the call owns. -/
import Derived.Test.YtpmmjhpmheooeaaDoorInfoR
import Derived.Test.YtpmmjhpmheooeaaDoorKa
import Derived.Test.YtpmmjhpmheooeaaDoorKb
import Derived.Lib.AppendZerosOnto
import Derived.IntWalk
import Derived.Deep.RegionLaw
import Derived.Laws.Externs
namespace Go.Proofs.YtpmmjhpmheooeaaDoor
set_option linter.unusedSimpArgs false
set_option linter.unusedVariables false
open Go.RowKit
set_option maxRecDepth 20000
theorem putT_len (l : List T3) (x : T3) (k : Nat) (h : k ≤ l.length) : (l.take k ++ x :: l.drop k).length = l.length + 1 := by
  rw [List.length_append, List.length_cons, List.length_take, List.length_drop]; omega
theorem putT_get (l : List T3) (x : T3) (k i : Nat) (hk : k ≤ l.length) : (t3s (l.take k ++ x :: l.drop k))[i]? = if i < k * 3 then (t3s l)[i]? else if i < (k + 1) * 3 then x.cells[i - k * 3]? else (t3s l)[i - 3]? := by
  have hx : x.cells.length = 3 := rfl
  have hxl := t3s_len l
  have e : t3s (x :: l.drop k) = x.cells ++ t3s (l.drop k) := rfl
  rw [t3s_append, e, t3s_take, t3s_drop, List.getElem?_append, List.length_take, hxl]
  by_cases h1 : i < k * 3
  · rw [if_pos (by omega), if_pos h1, List.getElem?_take, if_pos h1]
  · rw [if_neg (by omega), if_neg h1, List.getElem?_append, hx]
    have e9 : i - min (k * 3) (l.length * 3) = i - k * 3 := by omega
    rw [e9]
    by_cases h2 : i < (k + 1) * 3
    · rw [if_pos (by omega), if_pos h2]
    · rw [if_neg (by omega), if_neg h2, List.getElem?_drop]
      congr 1; omega
end Go.Proofs.YtpmmjhpmheooeaaDoor
