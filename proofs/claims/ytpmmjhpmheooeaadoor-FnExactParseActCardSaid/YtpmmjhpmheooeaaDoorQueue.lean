/- Small functions on lists of numbers: ranges, QueueOk, YearsOk, RankOf. -/
import Derived.Test.YtpmmjhpmheooeaaDoorBase
import Derived.Test.YtpmmjhpmheooeaaDoorProg
namespace Go.Proofs.YtpmmjhpmheooeaaDoor
set_option linter.unusedSimpArgs false
set_option linter.unusedVariables false
open Go.RowKit
def inB (x a b : Int) : Bool := decide (a ≤ x) && decide (x ≤ b)
theorem inB_iff {x a b : Int} : inB x a b = true ↔ a ≤ x ∧ x ≤ b := by unfold inB; simp
theorem inB_no {x a b : Int} : inB x a b = false ↔ ¬ (a ≤ x ∧ x ≤ b) := by rw [← inB_iff]; simp
def allIn (l : List Int) (a b : Int) : Bool := l.all fun x => inB x a b
theorem allIn_nil (a b : Int) : allIn [] a b = true := rfl
theorem allIn_cons (x : Int) (l : List Int) (a b : Int) : allIn (x :: l) a b = (inB x a b && allIn l a b) := rfl
theorem l01In_any (x a b : Int) (w : World) :
    Calls Tryd.prog 25 #[.int .i64 x, .int .i64 a, .int .i64 b] w fun e w' => e = .returned (.bool (inB x a b)) ∧ w = w' := by
  unfold inB
  by_cases h1 : a ≤ x <;> by_cases h2 : x ≤ b
  all_goals
    go_enter Tryd.func25, Tryd.ntmps25
    go_wp2
    go_ret
    simp [h1, h2]
theorem l04Water_any (x : Int) (w : World) :
    Calls Tryd.prog 119 #[.int .i64 x] w fun e w' => e = .returned (.bool (inB x 0 1000000)) ∧ w = w' := by
  go_enter Tryd.func119, Tryd.ntmps119
  go_wp2_with (go_at_call 25; refine (l01In_any _ _ _ _).mono ?_; rintro e w' ⟨rfl, rfl⟩)
  go_ret
  exact ⟨rfl, rfl⟩
theorem within_any (x a b : Int) (w : World) :
    Calls Tryd.prog 41 #[.int .i64 x, .int .i64 a, .int .i64 b] w fun e w' => e = .returned (.bool (inB x a b)) ∧ w = w' := by
  unfold inB
  by_cases h1 : a ≤ x <;> by_cases h2 : x ≤ b
  all_goals
    go_enter Tryd.func41, Tryd.ntmps41
    go_wp2
    go_ret
    simp [h1, h2]
def queueOk (l : List Int) : Bool := allIn l 1 100 && decide (l.length ≤ 12)
end Go.Proofs.YtpmmjhpmheooeaaDoor
