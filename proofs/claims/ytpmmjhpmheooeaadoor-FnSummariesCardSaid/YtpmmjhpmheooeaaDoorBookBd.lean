/- How great a book's numbers are. -/
import Derived.Test.YtpmmjhpmheooeaaDoorBooksPure
namespace Go.Proofs.YtpmmjhpmheooeaaDoor
set_option linter.unusedSimpArgs false
set_option linter.unusedVariables false
open Go.RowKit
theorem dall_bd : ∀ (l : List T3), (∀ e ∈ l, 0 ≤ e.y ∧ e.y ≤ 1000000) → 0 ≤ dall l ∧ dall l ≤ 1000000 * l.length
  | [], _ => by simp [dall]
  | t :: l, h => by
    have := dall_bd l (fun e he => h e (by simp [he]))
    have h2 := h t (by simp)
    simp only [dall, List.length_cons]
    split <;> omega
theorem book_bounds {b : Bk} (h : bookOk b = true) : (0 ≤ b.level ∧ b.level ≤ 1000000) ∧ (0 ≤ b.rained ∧ b.rained ≤ 40000000) ∧ (0 ≤ b.drunk ∧ b.drunk ≤ 40000000) ∧ (-1000000000 ≤ b.lost ∧ b.lost ≤ 1000000000) ∧ (0 ≤ b.start ∧ b.start ≤ 1000000) ∧ b.evs.length ≤ 40 := by
  have h1 := book_level h
  have h2 := book_bd h
  have h3 := book_balance h
  have h4 := book_drunk h
  have hd := dall_bd b.evs (book_liters h)
  obtain ⟨_, _, hl, _⟩ := bookOk_iff h
  omega
end Go.Proofs.YtpmmjhpmheooeaaDoor
