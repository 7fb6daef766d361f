/- YearsOk, RankOf, RecordYears. -/
import Derived.Test.YtnedbdpcimhfgaaApp
import Derived.Test.YtnedbdpcimhfgaaQueue
namespace Go.Proofs.Ytnedbdpcimhfgaa
open Go.RowKit
def yearsOk (l : List Int) : Bool := allIn l 0 100000 && inB l.length 1 60
set_option maxHeartbeats 400000 in
theorem YearsOkS_any (A : Option Addr) (c : Nat) (l : List Int) (w : World) (h : RdI w w.heap.size A c l) :
    Calls Try.prog 75 #[.slice A l.length c] w fun e w' => e = .returned (.bool (yearsOk l)) ∧ w = w' := by
  unfold yearsOk
  obtain ⟨hl, hm⟩ := h.le
  go_enter Try.func75, Try.ntmps75
  go_wp2
  go_loop [3] (fun i => ∃ k : Nat, k ≤ l.length ∧ i = .int .i64 k ∧ allIn l 0 100000 = allIn (l.drop k) 0 100000) (fun i => l.length - (intOf i).toNat)
  case atStart => exact ⟨0, Nat.zero_le _, rfl, rfl⟩
  case round =>
    obtain ⟨k, hk, rfl, hr⟩ := hrel
    have HR := Lib.hid hr; clear hr
    by_cases hlt : k < l.length
    · obtain ⟨b, o, x, rfl, hb, hx, hcell⟩ := h.at_ hlt
      have HX := Lib.hid hx; clear hx
      cases hin : inB x 0 100000
      · go_wp2_with (go_at_call 77; refine (l01In_any x 0 100000 _).mono ?_; rintro e w' ⟨rfl, rfl⟩)
        go_ret
        exact ⟨by rw [HR.out, drop_cons HX.out, allIn_cons, hin]; rfl, rfl⟩
      · go_wp2_with (go_at_call 77; refine (l01In_any x 0 100000 _).mono ?_; rintro e w' ⟨rfl, rfl⟩)
        go_round
        case rel => exact ⟨k + 1, by omega, by go_num, by rw [HR.out, drop_cons HX.out, allIn_cons, hin]; rfl⟩
        case measure => simp [intOf]; omega
    · go_wp2_with (go_at_call 77; refine (l01In_any _ 1 60 _).mono ?_; rintro e w' ⟨rfl, rfl⟩)
      go_ret
      exact ⟨ret_bool (by rw [HR.out, drop_end hlt, allIn_nil]; simp), rfl⟩
set_option maxHeartbeats 400000 in
theorem YearsOk_any (A : Option Addr) (c : Nat) (l : List Int) (w : World) (h : RdI w w.heap.size A c l) :
    Calls Try.prog 52 #[.slice A l.length c] w fun e w' => e = .returned (.bool (yearsOk l)) ∧ w = w' := by
  unfold yearsOk
  obtain ⟨hl, hm⟩ := h.le
  cases h12 : inB l.length 1 60
  all_goals
    go_enter Try.func52, Try.ntmps52
    go_wp2_with (first | (go_at_call 74; refine (allWithin_any A c l 0 100000 _ h).mono ?_; rintro e w' ⟨rfl, rfl⟩) | (go_at_call 65; refine (within_any _ 1 60 _).mono ?_; rintro e w' ⟨rfl, rfl⟩))
    go_ret
    exact ⟨ret_bool (by simp), rfl⟩
end Go.Proofs.Ytnedbdpcimhfgaa
