/- WaitOf. -/
import Derived.Test.YtnedbdpcimhfgabApp
import Derived.Test.YtnedbdpcimhfgabQueue
namespace Go.Proofs.Ytnedbdpcimhfgab
open Go.RowKit
theorem infoB : (Try.prog.info? 4).map (fun i => (i.zero, i.size, i.bytes)) = some (some (.bool false), 1, 1) := by kernel_rfl
theorem madeB (n : Nat) : (madeCells #[Value.bool false] n).toList = bools (List.replicate n false) := by
  unfold bools madeCells
  rw [List.map_replicate]
  apply List.ext_getElem (by simp)
  intro i h1 h2
  simp [Nat.mod_one]
def waitGo (times : List Int) : List Int → List Bool → Int → Int → Int
  | [], _, _, n => n
  | i :: rest, seen, now, n => if inB i 0 (times.length - 1) && !(seen.getD i.toNat false) then waitGo times rest (seen.set i.toNat true) (now + times.getD i.toNat 0) (n + now) else -1
theorem waitGo_cons (times : List Int) (i : Int) (rest : List Int) (seen : List Bool) (now n : Int) : waitGo times (i :: rest) seen now n = if inB i 0 (times.length - 1) && !(seen.getD i.toNat false) then waitGo times rest (seen.set i.toNat true) (now + times.getD i.toNat 0) (n + now) else -1 := rfl
def waitOf (times order : List Int) : Int := if queueOk times && decide (order.length = times.length) then waitGo times order (List.replicate times.length false) 0 0 else -1
theorem waitOf_no {times order : List Int} (h : queueOk times = false ∨ order.length ≠ times.length) : waitOf times order = -1 := by
  unfold waitOf; rcases h with h | h <;> simp [h]
theorem waitOf_yes {times order : List Int} (h1 : queueOk times = true) (h2 : order.length = times.length) : waitOf times order = waitGo times order (List.replicate times.length false) 0 0 := by
  unfold waitOf; simp [h1, h2]
theorem allIn_mem {l : List Int} {a b x : Int} {k : Nat} (h : allIn l a b = true) (hx : l[k]? = some x) : a ≤ x ∧ x ≤ b := by
  unfold allIn at h
  rw [List.all_eq_true] at h
  exact inB_iff.1 (h x (List.mem_of_getElem? hx))
theorem queueOk_iff {l : List Int} (h : queueOk l = true) : allIn l 1 100 = true ∧ l.length ≤ 12 := by
  unfold queueOk at h; simpa using h
end Go.Proofs.Ytnedbdpcimhfgab
