/- The law side's own helpers on slices of acts: copy, compare, look. -/
import Derived.Test.YtpmmjhpmheooeaaDoorTo3R
import Derived.Test.YtpmmjhpmheooeaaDoorAct
namespace Go.Proofs.YtpmmjhpmheooeaaDoor
set_option linter.unusedSimpArgs false
set_option linter.unusedVariables false
open Go.RowKit
set_option maxRecDepth 20000
theorem eqAct_same (x y z : Int) (w : World) :
    Calls Tryd.prog 9 #[.agg #[.int .i64 x, .int .i64 y, .int .i64 z], .agg #[.int .i64 x, .int .i64 y, .int .i64 z]] w fun e w' => e = .returned (.bool true) ∧ Below w.heap.size w w' := by
  have d1 : (x != x) = false := by simp
  have d2 : (y != y) = false := by simp
  have d3 : (z != z) = false := by simp
  go_enter Tryd.func9, Tryd.ntmps9
  go_wp2
  go_ret
  exact ⟨rfl, by repeat' (first | (with_reducible exact Below.refl _ _) | (with_reducible assumption) | (with_reducible refine Below.alloc ?_ ?_ _) | (with_reducible refine Below.setCell ?_ ?_ _) | (with_reducible refine Below.drew ?_) | (with_reducible refine below_drewN ?_ _) | (refine Below.trans ?_ (Below.mono (by with_reducible assumption) ?_)) | omega | (simp; done) | (simp; omega))⟩
end Go.Proofs.YtpmmjhpmheooeaaDoor
