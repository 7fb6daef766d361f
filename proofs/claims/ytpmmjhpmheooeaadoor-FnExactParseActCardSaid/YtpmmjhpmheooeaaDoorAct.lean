/- Acts: the copy, ActOk. -/
import Derived.Test.YtpmmjhpmheooeaaDoorBase
import Derived.Test.YtpmmjhpmheooeaaDoorQueue
namespace Go.Proofs.YtpmmjhpmheooeaaDoor
set_option linter.unusedSimpArgs false
set_option linter.unusedVariables false
open Go.RowKit
def actOk (k a b : Int) : Bool :=
  if k = 1 ∨ k = 3 then inB a 0 1000 && (b == 0)
  else if k = 2 then inB a 1 99 && inB b 0 1000
  else if k = 4 then inB a 1 99 && inB b 1 99
  else if k = 5 then inB a 1 99 && inB b 1 98
  else if k = 6 then inB a 1 99 && (b == 0)
  else false
set_option maxHeartbeats 1600000 in
theorem ActOkS_any (x y z : Int) (w : World) :
    Calls Tryd.prog 53 #[.agg #[.int .i64 x, .int .i64 y, .int .i64 z]] w fun e w' => e = .returned (.bool (actOk x y z)) ∧ Below w.heap.size w w' := by
  by_cases h1 : x = 1 ∨ x = 3
  · have e1 : actOk x y z = (inB y 0 1000 && (z == 0)) := by unfold actOk; rw [if_pos h1]
    have E1 := Lib.hid e1; clear e1
    rcases h1 with rfl | rfl
    all_goals
      cases hi : inB y 0 1000
      all_goals
        go_enter Tryd.func53, Tryd.ntmps53
        go_wp2_with (go_at_call 25; refine (l01In_any _ _ _ _).mono ?_; rintro e w' ⟨rfl, rfl⟩)
        go_ret
        exact ⟨by rw [E1.out, hi]; rfl, (Below.refl _ _).alloc (Nat.le_refl _) _⟩
  by_cases h2 : x = 2
  · have e1 : actOk x y z = (inB y 1 99 && inB z 0 1000) := by unfold actOk; rw [if_neg h1, if_pos h2]
    have E1 := Lib.hid e1; clear e1 h1
    subst h2
    cases hi : inB y 1 99
    all_goals
      go_enter Tryd.func53, Tryd.ntmps53
      go_wp2_with (go_at_call 25; refine (l01In_any _ _ _ _).mono ?_; rintro e w' ⟨rfl, rfl⟩)
      go_ret
      exact ⟨by rw [E1.out, hi]; rfl, (Below.refl _ _).alloc (Nat.le_refl _) _⟩
  by_cases h4 : x = 4
  · have e1 : actOk x y z = (inB y 1 99 && inB z 1 99) := by unfold actOk; rw [if_neg h1, if_neg h2, if_pos h4]
    have E1 := Lib.hid e1; clear e1 h1 h2
    subst h4
    cases hi : inB y 1 99
    all_goals
      go_enter Tryd.func53, Tryd.ntmps53
      go_wp2_with (go_at_call 25; refine (l01In_any _ _ _ _).mono ?_; rintro e w' ⟨rfl, rfl⟩)
      go_ret
      exact ⟨by rw [E1.out, hi]; rfl, (Below.refl _ _).alloc (Nat.le_refl _) _⟩
  by_cases h5 : x = 5
  · have e1 : actOk x y z = (inB y 1 99 && inB z 1 98) := by unfold actOk; rw [if_neg h1, if_neg h2, if_neg h4, if_pos h5]
    have E1 := Lib.hid e1; clear e1 h1 h2 h4
    subst h5
    cases hi : inB y 1 99
    all_goals
      go_enter Tryd.func53, Tryd.ntmps53
      go_wp2_with (go_at_call 25; refine (l01In_any _ _ _ _).mono ?_; rintro e w' ⟨rfl, rfl⟩)
      go_ret
      exact ⟨by rw [E1.out, hi]; rfl, (Below.refl _ _).alloc (Nat.le_refl _) _⟩
  by_cases h6 : x = 6
  · have e1 : actOk x y z = (inB y 1 99 && (z == 0)) := by unfold actOk; rw [if_neg h1, if_neg h2, if_neg h4, if_neg h5, if_pos h6]
    have E1 := Lib.hid e1; clear e1 h1 h2 h4 h5
    subst h6
    cases hi : inB y 1 99
    all_goals
      go_enter Tryd.func53, Tryd.ntmps53
      go_wp2_with (go_at_call 25; refine (l01In_any _ _ _ _).mono ?_; rintro e w' ⟨rfl, rfl⟩)
      go_ret
      exact ⟨by rw [E1.out, hi]; rfl, (Below.refl _ _).alloc (Nat.le_refl _) _⟩
  have e1 : actOk x y z = false := by unfold actOk; rw [if_neg h1, if_neg h2, if_neg h4, if_neg h5, if_neg h6]
  have E1 := Lib.hid e1; clear e1
  have g1 : (x == 1) = false := by simp; omega
  have g3 : (x == 3) = false := by simp; omega
  have g2 : (x == 2) = false := by simp; omega
  have g4 : (x == 4) = false := by simp; omega
  have g5 : (x == 5) = false := by simp; omega
  have g6 : (x == 6) = false := by simp; omega
  clear h1 h2 h4 h5 h6
  go_enter Tryd.func53, Tryd.ntmps53
  go_wp2
  go_ret
  exact ⟨by rw [E1.out]; rfl, (Below.refl _ _).alloc (Nat.le_refl _) _⟩
set_option maxHeartbeats 1600000 in
theorem ActOk_any (x y z : Int) (w : World) :
    Calls Tryd.prog 34 #[.agg #[.int .i64 x, .int .i64 y, .int .i64 z]] w fun e w' => e = .returned (.bool (actOk x y z)) ∧ Below w.heap.size w w' := by
  by_cases h1 : x = 1 ∨ x = 3
  · have e1 : actOk x y z = (inB y 0 1000 && (z == 0)) := by unfold actOk; rw [if_pos h1]
    have E1 := Lib.hid e1; clear e1
    rcases h1 with rfl | rfl
    all_goals
      cases hi : inB y 0 1000
      all_goals
        go_enter Tryd.func34, Tryd.ntmps34
        go_wp2_with (go_at_call 41; refine (within_any _ _ _ _).mono ?_; rintro e w' ⟨rfl, rfl⟩)
        go_ret
        exact ⟨by rw [E1.out, hi]; rfl, (Below.refl _ _).alloc (Nat.le_refl _) _⟩
  by_cases h2 : x = 2
  · have e1 : actOk x y z = (inB y 1 99 && inB z 0 1000) := by unfold actOk; rw [if_neg h1, if_pos h2]
    have E1 := Lib.hid e1; clear e1 h1
    subst h2
    cases hi : inB y 1 99
    all_goals
      go_enter Tryd.func34, Tryd.ntmps34
      go_wp2_with (go_at_call 41; refine (within_any _ _ _ _).mono ?_; rintro e w' ⟨rfl, rfl⟩)
      go_ret
      exact ⟨by rw [E1.out, hi]; rfl, (Below.refl _ _).alloc (Nat.le_refl _) _⟩
  by_cases h4 : x = 4
  · have e1 : actOk x y z = (inB y 1 99 && inB z 1 99) := by unfold actOk; rw [if_neg h1, if_neg h2, if_pos h4]
    have E1 := Lib.hid e1; clear e1 h1 h2
    subst h4
    cases hi : inB y 1 99
    all_goals
      go_enter Tryd.func34, Tryd.ntmps34
      go_wp2_with (go_at_call 41; refine (within_any _ _ _ _).mono ?_; rintro e w' ⟨rfl, rfl⟩)
      go_ret
      exact ⟨by rw [E1.out, hi]; rfl, (Below.refl _ _).alloc (Nat.le_refl _) _⟩
  by_cases h5 : x = 5
  · have e1 : actOk x y z = (inB y 1 99 && inB z 1 98) := by unfold actOk; rw [if_neg h1, if_neg h2, if_neg h4, if_pos h5]
    have E1 := Lib.hid e1; clear e1 h1 h2 h4
    subst h5
    cases hi : inB y 1 99
    all_goals
      go_enter Tryd.func34, Tryd.ntmps34
      go_wp2_with (go_at_call 41; refine (within_any _ _ _ _).mono ?_; rintro e w' ⟨rfl, rfl⟩)
      go_ret
      exact ⟨by rw [E1.out, hi]; rfl, (Below.refl _ _).alloc (Nat.le_refl _) _⟩
  by_cases h6 : x = 6
  · have e1 : actOk x y z = (inB y 1 99 && (z == 0)) := by unfold actOk; rw [if_neg h1, if_neg h2, if_neg h4, if_neg h5, if_pos h6]
    have E1 := Lib.hid e1; clear e1 h1 h2 h4 h5
    subst h6
    cases hi : inB y 1 99
    all_goals
      go_enter Tryd.func34, Tryd.ntmps34
      go_wp2_with (go_at_call 41; refine (within_any _ _ _ _).mono ?_; rintro e w' ⟨rfl, rfl⟩)
      go_ret
      exact ⟨by rw [E1.out, hi]; rfl, (Below.refl _ _).alloc (Nat.le_refl _) _⟩
  have e1 : actOk x y z = false := by unfold actOk; rw [if_neg h1, if_neg h2, if_neg h4, if_neg h5, if_neg h6]
  have E1 := Lib.hid e1; clear e1
  have g1 : (x == 1) = false := by simp; omega
  have g3 : (x == 3) = false := by simp; omega
  have g2 : (x == 2) = false := by simp; omega
  have g4 : (x == 4) = false := by simp; omega
  have g5 : (x == 5) = false := by simp; omega
  have g6 : (x == 6) = false := by simp; omega
  clear h1 h2 h4 h5 h6
  go_enter Tryd.func34, Tryd.ntmps34
  go_wp2
  go_ret
  exact ⟨by rw [E1.out]; rfl, (Below.refl _ _).alloc (Nat.le_refl _) _⟩
end Go.Proofs.YtpmmjhpmheooeaaDoor
