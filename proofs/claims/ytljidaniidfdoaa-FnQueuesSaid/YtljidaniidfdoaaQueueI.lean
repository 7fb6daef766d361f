/- QueueOk, where its reference is not in the seat. -/
import Derived.Test.YtljidaniidfdoaaQueue
namespace Go.Proofs.Ytljidaniidfdoaa
open Go.RowKit
set_option maxHeartbeats 400000 in
theorem QueueOk_any (A : Option Addr) (c : Nat) (l : List Int) (w : World) (h : RdI w w.heap.size A c l) :
    Calls Try.prog 15 #[.slice A l.length c] w fun e w' => e = .returned (.bool (queueOk l)) ∧ w = w' := by
  unfold queueOk
  obtain ⟨hl, hm⟩ := h.le
  by_cases h12 : (l.length : Int) ≤ 12
  · go_enter Try.func15, Try.ntmps15
    go_wp2_with (go_at_call 48; refine (allWithin_any A c l 1 100 _ h).mono ?_; rintro e w' ⟨rfl, rfl⟩)
    go_ret
    exact ⟨ret_bool (by simp; omega), rfl⟩
  · go_enter Try.func15, Try.ntmps15
    go_wp2
    go_ret
    exact ⟨ret_bool (by simp; omega), rfl⟩
end Go.Proofs.Ytljidaniidfdoaa
