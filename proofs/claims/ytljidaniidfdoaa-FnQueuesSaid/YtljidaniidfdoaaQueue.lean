/- Small functions on lists of numbers: ranges, QueueOk, YearsOk, RankOf. -/
import Derived.Test.YtljidaniidfdoaaBase
import Derived.Test.YtljidaniidfdoaaProg
namespace Go.Proofs.Ytljidaniidfdoaa
open Go.RowKit
def inB (x a b : Int) : Bool := decide (a ≤ x) && decide (x ≤ b)
theorem inB_iff {x a b : Int} : inB x a b = true ↔ a ≤ x ∧ x ≤ b := by unfold inB; simp
theorem inB_no {x a b : Int} : inB x a b = false ↔ ¬ (a ≤ x ∧ x ≤ b) := by rw [← inB_iff]; simp
def allIn (l : List Int) (a b : Int) : Bool := l.all fun x => inB x a b
theorem allIn_nil (a b : Int) : allIn [] a b = true := rfl
theorem allIn_cons (x : Int) (l : List Int) (a b : Int) : allIn (x :: l) a b = (inB x a b && allIn l a b) := rfl
theorem l01In_any (x a b : Int) (w : World) :
    Calls Try.prog 83 #[.int .i64 x, .int .i64 a, .int .i64 b] w fun e w' => e = .returned (.bool (inB x a b)) ∧ w = w' := by
  unfold inB
  by_cases h1 : a ≤ x <;> by_cases h2 : x ≤ b
  all_goals
    go_enter Try.func83, Try.ntmps83
    go_wp2
    go_ret
    simp [h1, h2]
theorem l04Water_any (x : Int) (w : World) :
    Calls Try.prog 139 #[.int .i64 x] w fun e w' => e = .returned (.bool (inB x 0 1000000)) ∧ w = w' := by
  go_enter Try.func139, Try.ntmps139
  go_wp2_with (go_at_call 83; refine (l01In_any _ _ _ _).mono ?_; rintro e w' ⟨rfl, rfl⟩)
  go_ret
  exact ⟨rfl, rfl⟩
theorem within_any (x a b : Int) (w : World) :
    Calls Try.prog 44 #[.int .i64 x, .int .i64 a, .int .i64 b] w fun e w' => e = .returned (.bool (inB x a b)) ∧ w = w' := by
  unfold inB
  by_cases h1 : a ≤ x <;> by_cases h2 : x ≤ b
  all_goals
    go_enter Try.func44, Try.ntmps44
    go_wp2
    go_ret
    simp [h1, h2]
set_option maxHeartbeats 400000 in
theorem allWithin_any (A : Option Addr) (c : Nat) (l : List Int) (p q : Int) (w : World) (h : RdI w w.heap.size A c l) :
    Calls Try.prog 48 #[.slice A l.length c, .int .i64 p, .int .i64 q] w fun e w' => e = .returned (.bool (allIn l p q)) ∧ w = w' := by
  obtain ⟨hl, hm⟩ := h.le
  go_enter Try.func48, Try.ntmps48
  go_wp2
  go_loop [11] (fun i => ∃ k : Nat, k ≤ l.length ∧ i = .int .i64 k ∧ allIn l p q = allIn (l.drop k) p q) (fun i => l.length - (intOf i).toNat)
  case atStart => exact ⟨0, Nat.zero_le _, rfl, rfl⟩
  case round =>
    obtain ⟨k, hk, rfl, hr⟩ := hrel
    have HR := Lib.hid hr; clear hr
    by_cases hlt : k < l.length
    · obtain ⟨b, o, x, rfl, hb, hx, hcell⟩ := h.at_ hlt
      have HX := Lib.hid hx; clear hx
      cases hin : inB x p q
      · go_wp2_with (go_at_call 44; refine (within_any x p q _).mono ?_; rintro e w' ⟨rfl, rfl⟩)
        go_ret
        exact ⟨by rw [HR.out, drop_cons HX.out, allIn_cons, hin]; rfl, rfl⟩
      · go_wp2_with (go_at_call 44; refine (within_any x p q _).mono ?_; rintro e w' ⟨rfl, rfl⟩)
        go_round
        case rel => exact ⟨k + 1, by omega, by go_num, by rw [HR.out, drop_cons HX.out, allIn_cons, hin]; rfl⟩
        case measure => simp [intOf]; omega
    · go_wp2
      go_ret
      exact ⟨by rw [HR.out, drop_end hlt]; rfl, rfl⟩
def queueOk (l : List Int) : Bool := allIn l 1 100 && decide (l.length ≤ 12)
end Go.Proofs.Ytljidaniidfdoaa
