/- Events: the copy, EventOn. -/
import Derived.Test.YtnedbdpcimhfgaaDoorBase
import Derived.Test.YtnedbdpcimhfgaaDoorQueue
namespace Go.Proofs.YtnedbdpcimhfgaaDoor
open Go.RowKit
/-- new level, rained, drunk, lost, ok -/
def evOn (level room k l o : Int) : Int × Int × Int × Int × Bool :=
  if !(inB room 1 1000000 && inB level 0 room && inB l 0 1000000) then (level, 0, 0, 0, false)
  else if k = 1 ∧ o = 0 then (level + min l (room - level), l, 0, l - min l (room - level), true)
  else if k = 2 ∧ (1 ≤ o ∧ o ≤ 999) ∧ l ≤ level then (level - l, 0, l, 0, true)
  else if k = 3 ∧ o = 0 ∧ l ≤ level then (level - l, 0, 0, l, true)
  else (level, 0, 0, 0, false)
def evRet (r : Int × Int × Int × Int × Bool) : Ending := .returned (.tuple #[.int .i64 r.1, .int .i64 r.2.1, .int .i64 r.2.2.1, .int .i64 r.2.2.2.1, .bool r.2.2.2.2])
theorem evOn_bad {level room k l o : Int} (h : inB room 1 1000000 = false ∨ inB level 0 room = false ∨ inB l 0 1000000 = false) : evOn level room k l o = (level, 0, 0, 0, false) := by
  unfold evOn; rcases h with h | h | h <;> simp [h]
theorem evOn_good {level room k l o : Int} (h1 : inB room 1 1000000 = true) (h2 : inB level 0 room = true) (h3 : inB l 0 1000000 = true) : evOn level room k l o =
    if k = 1 ∧ o = 0 then (level + min l (room - level), l, 0, l - min l (room - level), true)
    else if k = 2 ∧ (1 ≤ o ∧ o ≤ 999) ∧ l ≤ level then (level - l, 0, l, 0, true)
    else if k = 3 ∧ o = 0 ∧ l ≤ level then (level - l, 0, 0, l, true)
    else (level, 0, 0, 0, false) := by unfold evOn; rw [h1, h2, h3]; rfl
end Go.Proofs.YtnedbdpcimhfgaaDoor
