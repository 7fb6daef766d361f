/- Texts of the proof, joined: Event. -/
import Derived.Test.YtpmmjhpmheooeaaGreatDoorQ0
import Derived.Test.YtpmmjhpmheooeaaGreatDoorQ1
namespace Go.Proofs.YtpmmjhpmheooeaaGreatDoor
set_option linter.unusedSimpArgs false
set_option linter.unusedVariables false
section
open Go.RowKit
/-- new level, rained, drunk, lost, ok -/
def evOn (level room k l o : Int) : Int × Int × Int × Int × Bool :=
 if !(inB room 1 1000000 && inB level 0 room && inB l 0 1000000) then (level, 0, 0, 0, false)
 else if k = 1 ∧ o = 0 then (level + min l (room - level), l, 0, l - min l (room - level), true)
 else if k = 2 ∧ (1 ≤ o ∧ o ≤ 999) ∧ l ≤ level then (level - l, 0, l, 0, true)
 else if k = 3 ∧ o = 0 ∧ l ≤ level then (level - l, 0, 0, l, true)
 else (level, 0, 0, 0, false)
def evRet (r : Int × Int × Int × Int × Bool) : Ending := .returned (.tuple #[.int .i64 r.1, .int .i64 r.2.1, .int .i64 r.2.2.1, .int .i64 r.2.2.2.1, .bool r.2.2.2.2])
theorem evOn_bad {level room k l o : Int} (h : inB room 1 1000000 = false ∨ inB level 0 room = false ∨ inB l 0 1000000 = false) : evOn level room k l o = (level, 0, 0, 0, false) := by
 unfold evOn; rcases h with h | h | h <;> simp [h]
theorem evOn_good {level room k l o : Int} (h1 : inB room 1 1000000 = true) (h2 : inB level 0 room = true) (h3 : inB l 0 1000000 = true) : evOn level room k l o =
  if k = 1 ∧ o = 0 then (level + min l (room - level), l, 0, l - min l (room - level), true)
  else if k = 2 ∧ (1 ≤ o ∧ o ≤ 999) ∧ l ≤ level then (level - l, 0, l, 0, true)
  else if k = 3 ∧ o = 0 ∧ l ≤ level then (level - l, 0, 0, l, true)
  else (level, 0, 0, 0, false) := by unfold evOn; rw [h1, h2, h3]; rfl
set_option maxHeartbeats 3200000 in
theorem EventOn_any (level room k l o : Int) (w : World) :
  Calls Tryz.prog 124 #[.int .i64 level, .int .i64 room, .agg #[.int .i64 k, .int .i64 l, .int .i64 o]] w fun e w' => e = evRet (evOn level room k l o) ∧ Below w.heap.size w w' := by
 cases h1 : inB room 1 1000000
 ·have E1 := Lib.hid (evOn_bad (k := k) (o := o) (level := level) (l := l) (.inl h1))
  go_enter Tryz.func124, Tryz.ntmps124
  go_wp2_with (first | (go_at_call 97; refine (within_any _ _ _ _).mono ?_; rintro e w' ⟨rfl, rfl⟩))
  rw [E1.out]
  exact bodyPost_ret (v := .tuple #[.int .i64 level, .int .i64 0, .int .i64 0, .int .i64 0, .bool false]) (by simp [results, Tryz.results124, go_sem]) rfl ⟨rfl, (by exact tacT)⟩
 cases h2 : inB level 0 room
 ·have E1 := Lib.hid (evOn_bad (k := k) (o := o) (l := l) (room := room) (.inr (.inl h2)))
  go_enter Tryz.func124, Tryz.ntmps124
  go_wp2_with (first | (go_at_call 97; refine (within_any _ _ _ _).mono ?_; rintro e w' ⟨rfl, rfl⟩))
  rw [E1.out]
  exact bodyPost_ret (v := .tuple #[.int .i64 level, .int .i64 0, .int .i64 0, .int .i64 0, .bool false]) (by simp [results, Tryz.results124, go_sem]) rfl ⟨rfl, (by exact tacT)⟩
 cases h3 : inB l 0 1000000
 ·have E1 := Lib.hid (evOn_bad (k := k) (o := o) (level := level) (room := room) (.inr (.inr h3)))
  go_enter Tryz.func124, Tryz.ntmps124
  go_wp2_with (first | (go_at_call 97; refine (within_any _ _ _ _).mono ?_; rintro e w' ⟨rfl, rfl⟩))
  rw [E1.out]
  exact bodyPost_ret (v := .tuple #[.int .i64 level, .int .i64 0, .int .i64 0, .int .i64 0, .bool false]) (by simp [results, Tryz.results124, go_sem]) rfl ⟨rfl, (by exact tacT)⟩
 have e0 := evOn_good (k := k) (o := o) h1 h2 h3
 obtain ⟨r1, r2⟩ := inB_iff.1 h1
 obtain ⟨v1, v2⟩ := inB_iff.1 h2
 obtain ⟨l1, l2⟩ := inB_iff.1 h3
 by_cases ha : k = 1 ∧ o = 0
 ·rw [if_pos ha] at e0
  have E1 := Lib.hid e0; clear e0
  obtain ⟨rfl, rfl⟩ := ha
  by_cases hm : l ≤ room - level
  all_goals
   go_enter Tryz.func124, Tryz.ntmps124
   go_wp2_with (first | (go_at_call 97; refine (within_any _ _ _ _).mono ?_; rintro e w' ⟨rfl, rfl⟩))
   have q1 : IntKind.i64.wrap (level + l) = level + l := IntWalk.i64_in _ (by omega)
   have q2 : IntKind.i64.wrap (l - l) = l - l := IntWalk.i64_in _ (by omega)
   have q3 : IntKind.i64.wrap (level + (room - level)) = level + (room - level) := IntWalk.i64_in _ (by omega)
   have q4 : IntKind.i64.wrap (l - (room - level)) = l - (room - level) := IntWalk.i64_in _ (by omega)
   go_quiet (fail)
   clear q1 q2 q3 q4
   go_wp2
   rw [E1.out]
  ·have e1 : min l (room - level) = l := by omega
   rw [e1]
   exact bodyPost_ret (v := .tuple #[.int .i64 (level + l), .int .i64 (l), .int .i64 (0), .int .i64 (l - l), .bool true]) (by simp [results, Tryz.results124, go_sem]) rfl ⟨rfl, (by exact tacT)⟩
  ·have e1 : min l (room - level) = room - level := by omega
   rw [e1]
   exact bodyPost_ret (v := .tuple #[.int .i64 (level + (room - level)), .int .i64 (l), .int .i64 (0), .int .i64 (l - (room - level)), .bool true]) (by simp [results, Tryz.results124, go_sem]) rfl ⟨rfl, (by exact tacT)⟩
 rw [if_neg ha] at e0
 by_cases hb : k = 2 ∧ (1 ≤ o ∧ o ≤ 999) ∧ l ≤ level
 ·rw [if_pos hb] at e0
  have E1 := Lib.hid e0; clear e0 ha
  obtain ⟨rfl, ⟨o1, o2⟩, hl⟩ := hb
  have h9 : inB o 1 999 = true := inB_iff.2 ⟨o1, o2⟩
  go_enter Tryz.func124, Tryz.ntmps124
  go_wp2_with (first | (go_at_call 97; refine (within_any _ _ _ _).mono ?_; rintro e w' ⟨rfl, rfl⟩))
  have q1 : IntKind.i64.wrap (level - l) = level - l := IntWalk.i64_in _ (by omega)
  go_quiet (fail)
  clear q1
  go_wp2
  rw [E1.out]
  exact bodyPost_ret (v := .tuple #[.int .i64 (level - l), .int .i64 (0), .int .i64 (l), .int .i64 (0), .bool true]) (by simp [results, Tryz.results124, go_sem]) rfl ⟨rfl, (by exact tacT)⟩
 rw [if_neg hb] at e0
 by_cases hd : k = 3 ∧ o = 0 ∧ l ≤ level
 ·rw [if_pos hd] at e0
  have E1 := Lib.hid e0; clear e0 ha hb
  obtain ⟨rfl, rfl, hl⟩ := hd
  go_enter Tryz.func124, Tryz.ntmps124
  go_wp2_with (first | (go_at_call 97; refine (within_any _ _ _ _).mono ?_; rintro e w' ⟨rfl, rfl⟩))
  have q1 : IntKind.i64.wrap (level - l) = level - l := IntWalk.i64_in _ (by omega)
  go_quiet (fail)
  clear q1
  go_wp2
  rw [E1.out]
  exact bodyPost_ret (v := .tuple #[.int .i64 (level - l), .int .i64 (0), .int .i64 (0), .int .i64 (l), .bool true]) (by simp [results, Tryz.results124, go_sem]) rfl ⟨rfl, (by exact tacT)⟩
 rw [if_neg hd] at e0
 have E1 := Lib.hid e0; clear e0
 by_cases k1 : k = 1
 ·subst k1
  have o0 : (o == 0) = false := by simp; omega
  clear ha hb hd
  go_enter Tryz.func124, Tryz.ntmps124
  go_wp2_with (first | (go_at_call 97; refine (within_any _ _ _ _).mono ?_; rintro e w' ⟨rfl, rfl⟩))
  rw [E1.out]
  exact bodyPost_ret (v := .tuple #[.int .i64 (level), .int .i64 (0), .int .i64 (0), .int .i64 (0), .bool false]) (by simp [results, Tryz.results124, go_sem]) rfl ⟨rfl, (by exact tacT)⟩
 by_cases k2 : k = 2
 ·subst k2
  cases h9 : inB o 1 999
  ·clear ha hb hd
   go_enter Tryz.func124, Tryz.ntmps124
   go_wp2_with (first | (go_at_call 97; refine (within_any _ _ _ _).mono ?_; rintro e w' ⟨rfl, rfl⟩))
   rw [E1.out]
   exact bodyPost_ret (v := .tuple #[.int .i64 (level), .int .i64 (0), .int .i64 (0), .int .i64 (0), .bool false]) (by simp [results, Tryz.results124, go_sem]) rfl ⟨rfl, (by exact tacT)⟩
  ·have hl : ¬ l ≤ level := fun h => hb ⟨rfl, inB_iff.1 h9, h⟩
   clear ha hb hd
   go_enter Tryz.func124, Tryz.ntmps124
   go_wp2_with (first | (go_at_call 97; refine (within_any _ _ _ _).mono ?_; rintro e w' ⟨rfl, rfl⟩))
   rw [E1.out]
   exact bodyPost_ret (v := .tuple #[.int .i64 (level), .int .i64 (0), .int .i64 (0), .int .i64 (0), .bool false]) (by simp [results, Tryz.results124, go_sem]) rfl ⟨rfl, (by exact tacT)⟩
 have g1 : (k == 1) = false := by simp; omega
 have g2 : (k == 2) = false := by simp; omega
 by_cases k3 : k = 3
 ·subst k3
  by_cases o0 : o = 0
  ·subst o0
   have hl : ¬ l ≤ level := fun h => hd ⟨rfl, rfl, h⟩
   clear ha hb hd
   go_enter Tryz.func124, Tryz.ntmps124
   go_wp2_with (first | (go_at_call 97; refine (within_any _ _ _ _).mono ?_; rintro e w' ⟨rfl, rfl⟩))
   rw [E1.out]
   exact bodyPost_ret (v := .tuple #[.int .i64 (level), .int .i64 (0), .int .i64 (0), .int .i64 (0), .bool false]) (by simp [results, Tryz.results124, go_sem]) rfl ⟨rfl, (by exact tacT)⟩
  ·have o1 : (o == 0) = false := by simp; omega
   clear ha hb hd
   go_enter Tryz.func124, Tryz.ntmps124
   go_wp2_with (first | (go_at_call 97; refine (within_any _ _ _ _).mono ?_; rintro e w' ⟨rfl, rfl⟩))
   rw [E1.out]
   exact bodyPost_ret (v := .tuple #[.int .i64 (level), .int .i64 (0), .int .i64 (0), .int .i64 (0), .bool false]) (by simp [results, Tryz.results124, go_sem]) rfl ⟨rfl, (by exact tacT)⟩
 have g3 : (k == 3) = false := by simp; omega
 clear ha hb hd k1 k2 k3
 go_enter Tryz.func124, Tryz.ntmps124
 go_wp2_with (first | (go_at_call 97; refine (within_any _ _ _ _).mono ?_; rintro e w' ⟨rfl, rfl⟩))
 rw [E1.out]
 exact bodyPost_ret (v := .tuple #[.int .i64 (level), .int .i64 (0), .int .i64 (0), .int .i64 (0), .bool false]) (by simp [results, Tryz.results124, go_sem]) rfl ⟨rfl, (by exact tacT)⟩
set_option maxHeartbeats 3200000 in
theorem EventOnS_any (level room k l o : Int) (w : World) :
  Calls Tryz.prog 139 #[.int .i64 level, .int .i64 room, .agg #[.int .i64 k, .int .i64 l, .int .i64 o]] w fun e w' => e = evRet (evOn level room k l o) ∧ Below w.heap.size w w' := by
 cases h1 : inB room 1 1000000
 ·have E1 := Lib.hid (evOn_bad (k := k) (o := o) (level := level) (l := l) (.inl h1))
  go_enter Tryz.func139, Tryz.ntmps139
  go_wp2_with (first | (go_at_call 43; refine (l01In_any _ _ _ _).mono ?_; rintro e w' ⟨rfl, rfl⟩) | (go_at_call 159; refine (l04Water_any _ _).mono ?_; rintro e w' ⟨rfl, rfl⟩))
  rw [E1.out]
  exact bodyPost_ret (v := .tuple #[.int .i64 level, .int .i64 0, .int .i64 0, .int .i64 0, .bool false]) (by simp [results, Tryz.results139, go_sem]) rfl ⟨rfl, (by exact tacT)⟩
 cases h2 : inB level 0 room
 ·have E1 := Lib.hid (evOn_bad (k := k) (o := o) (l := l) (room := room) (.inr (.inl h2)))
  go_enter Tryz.func139, Tryz.ntmps139
  go_wp2_with (first | (go_at_call 43; refine (l01In_any _ _ _ _).mono ?_; rintro e w' ⟨rfl, rfl⟩) | (go_at_call 159; refine (l04Water_any _ _).mono ?_; rintro e w' ⟨rfl, rfl⟩))
  rw [E1.out]
  exact bodyPost_ret (v := .tuple #[.int .i64 level, .int .i64 0, .int .i64 0, .int .i64 0, .bool false]) (by simp [results, Tryz.results139, go_sem]) rfl ⟨rfl, (by exact tacT)⟩
 cases h3 : inB l 0 1000000
 ·have E1 := Lib.hid (evOn_bad (k := k) (o := o) (level := level) (room := room) (.inr (.inr h3)))
  go_enter Tryz.func139, Tryz.ntmps139
  go_wp2_with (first | (go_at_call 43; refine (l01In_any _ _ _ _).mono ?_; rintro e w' ⟨rfl, rfl⟩) | (go_at_call 159; refine (l04Water_any _ _).mono ?_; rintro e w' ⟨rfl, rfl⟩))
  rw [E1.out]
  exact bodyPost_ret (v := .tuple #[.int .i64 level, .int .i64 0, .int .i64 0, .int .i64 0, .bool false]) (by simp [results, Tryz.results139, go_sem]) rfl ⟨rfl, (by exact tacT)⟩
 have e0 := evOn_good (k := k) (o := o) h1 h2 h3
 obtain ⟨r1, r2⟩ := inB_iff.1 h1
 obtain ⟨v1, v2⟩ := inB_iff.1 h2
 obtain ⟨l1, l2⟩ := inB_iff.1 h3
 by_cases ha : k = 1 ∧ o = 0
 ·rw [if_pos ha] at e0
  have E1 := Lib.hid e0; clear e0
  obtain ⟨rfl, rfl⟩ := ha
  by_cases hm : l ≤ room - level
  all_goals
   go_enter Tryz.func139, Tryz.ntmps139
   go_wp2_with (first | (go_at_call 43; refine (l01In_any _ _ _ _).mono ?_; rintro e w' ⟨rfl, rfl⟩) | (go_at_call 159; refine (l04Water_any _ _).mono ?_; rintro e w' ⟨rfl, rfl⟩))
   have q1 : IntKind.i64.wrap (level + l) = level + l := IntWalk.i64_in _ (by omega)
   have q2 : IntKind.i64.wrap (l - l) = l - l := IntWalk.i64_in _ (by omega)
   have q3 : IntKind.i64.wrap (level + (room - level)) = level + (room - level) := IntWalk.i64_in _ (by omega)
   have q4 : IntKind.i64.wrap (l - (room - level)) = l - (room - level) := IntWalk.i64_in _ (by omega)
   go_quiet (fail)
   clear q1 q2 q3 q4
   go_wp2
   rw [E1.out]
  ·have e1 : min l (room - level) = l := by omega
   rw [e1]
   exact bodyPost_ret (v := .tuple #[.int .i64 (level + l), .int .i64 (l), .int .i64 (0), .int .i64 (l - l), .bool true]) (by simp [results, Tryz.results139, go_sem]) rfl ⟨rfl, (by exact tacT)⟩
  ·have e1 : min l (room - level) = room - level := by omega
   rw [e1]
   exact bodyPost_ret (v := .tuple #[.int .i64 (level + (room - level)), .int .i64 (l), .int .i64 (0), .int .i64 (l - (room - level)), .bool true]) (by simp [results, Tryz.results139, go_sem]) rfl ⟨rfl, (by exact tacT)⟩
 rw [if_neg ha] at e0
 by_cases hb : k = 2 ∧ (1 ≤ o ∧ o ≤ 999) ∧ l ≤ level
 ·rw [if_pos hb] at e0
  have E1 := Lib.hid e0; clear e0 ha
  obtain ⟨rfl, ⟨o1, o2⟩, hl⟩ := hb
  have h9 : inB o 1 999 = true := inB_iff.2 ⟨o1, o2⟩
  go_enter Tryz.func139, Tryz.ntmps139
  go_wp2_with (first | (go_at_call 43; refine (l01In_any _ _ _ _).mono ?_; rintro e w' ⟨rfl, rfl⟩) | (go_at_call 159; refine (l04Water_any _ _).mono ?_; rintro e w' ⟨rfl, rfl⟩))
  have q1 : IntKind.i64.wrap (level - l) = level - l := IntWalk.i64_in _ (by omega)
  go_quiet (fail)
  clear q1
  go_wp2
  rw [E1.out]
  exact bodyPost_ret (v := .tuple #[.int .i64 (level - l), .int .i64 (0), .int .i64 (l), .int .i64 (0), .bool true]) (by simp [results, Tryz.results139, go_sem]) rfl ⟨rfl, (by exact tacT)⟩
 rw [if_neg hb] at e0
 by_cases hd : k = 3 ∧ o = 0 ∧ l ≤ level
 ·rw [if_pos hd] at e0
  have E1 := Lib.hid e0; clear e0 ha hb
  obtain ⟨rfl, rfl, hl⟩ := hd
  go_enter Tryz.func139, Tryz.ntmps139
  go_wp2_with (first | (go_at_call 43; refine (l01In_any _ _ _ _).mono ?_; rintro e w' ⟨rfl, rfl⟩) | (go_at_call 159; refine (l04Water_any _ _).mono ?_; rintro e w' ⟨rfl, rfl⟩))
  have q1 : IntKind.i64.wrap (level - l) = level - l := IntWalk.i64_in _ (by omega)
  go_quiet (fail)
  clear q1
  go_wp2
  rw [E1.out]
  exact bodyPost_ret (v := .tuple #[.int .i64 (level - l), .int .i64 (0), .int .i64 (0), .int .i64 (l), .bool true]) (by simp [results, Tryz.results139, go_sem]) rfl ⟨rfl, (by exact tacT)⟩
 rw [if_neg hd] at e0
 have E1 := Lib.hid e0; clear e0
 by_cases k1 : k = 1
 ·subst k1
  have o0 : (o == 0) = false := by simp; omega
  clear ha hb hd
  go_enter Tryz.func139, Tryz.ntmps139
  go_wp2_with (first | (go_at_call 43; refine (l01In_any _ _ _ _).mono ?_; rintro e w' ⟨rfl, rfl⟩) | (go_at_call 159; refine (l04Water_any _ _).mono ?_; rintro e w' ⟨rfl, rfl⟩))
  rw [E1.out]
  exact bodyPost_ret (v := .tuple #[.int .i64 (level), .int .i64 (0), .int .i64 (0), .int .i64 (0), .bool false]) (by simp [results, Tryz.results139, go_sem]) rfl ⟨rfl, (by exact tacT)⟩
 by_cases k2 : k = 2
 ·subst k2
  cases h9 : inB o 1 999
  ·clear ha hb hd
   go_enter Tryz.func139, Tryz.ntmps139
   go_wp2_with (first | (go_at_call 43; refine (l01In_any _ _ _ _).mono ?_; rintro e w' ⟨rfl, rfl⟩) | (go_at_call 159; refine (l04Water_any _ _).mono ?_; rintro e w' ⟨rfl, rfl⟩))
   rw [E1.out]
   exact bodyPost_ret (v := .tuple #[.int .i64 (level), .int .i64 (0), .int .i64 (0), .int .i64 (0), .bool false]) (by simp [results, Tryz.results139, go_sem]) rfl ⟨rfl, (by exact tacT)⟩
  ·have hl : ¬ l ≤ level := fun h => hb ⟨rfl, inB_iff.1 h9, h⟩
   clear ha hb hd
   go_enter Tryz.func139, Tryz.ntmps139
   go_wp2_with (first | (go_at_call 43; refine (l01In_any _ _ _ _).mono ?_; rintro e w' ⟨rfl, rfl⟩) | (go_at_call 159; refine (l04Water_any _ _).mono ?_; rintro e w' ⟨rfl, rfl⟩))
   rw [E1.out]
   exact bodyPost_ret (v := .tuple #[.int .i64 (level), .int .i64 (0), .int .i64 (0), .int .i64 (0), .bool false]) (by simp [results, Tryz.results139, go_sem]) rfl ⟨rfl, (by exact tacT)⟩
 have g1 : (k == 1) = false := by simp; omega
 have g2 : (k == 2) = false := by simp; omega
 by_cases k3 : k = 3
 ·subst k3
  by_cases o0 : o = 0
  ·subst o0
   have hl : ¬ l ≤ level := fun h => hd ⟨rfl, rfl, h⟩
   clear ha hb hd
   go_enter Tryz.func139, Tryz.ntmps139
   go_wp2_with (first | (go_at_call 43; refine (l01In_any _ _ _ _).mono ?_; rintro e w' ⟨rfl, rfl⟩) | (go_at_call 159; refine (l04Water_any _ _).mono ?_; rintro e w' ⟨rfl, rfl⟩))
   rw [E1.out]
   exact bodyPost_ret (v := .tuple #[.int .i64 (level), .int .i64 (0), .int .i64 (0), .int .i64 (0), .bool false]) (by simp [results, Tryz.results139, go_sem]) rfl ⟨rfl, (by exact tacT)⟩
  ·have o1 : (o == 0) = false := by simp; omega
   clear ha hb hd
   go_enter Tryz.func139, Tryz.ntmps139
   go_wp2_with (first | (go_at_call 43; refine (l01In_any _ _ _ _).mono ?_; rintro e w' ⟨rfl, rfl⟩) | (go_at_call 159; refine (l04Water_any _ _).mono ?_; rintro e w' ⟨rfl, rfl⟩))
   rw [E1.out]
   exact bodyPost_ret (v := .tuple #[.int .i64 (level), .int .i64 (0), .int .i64 (0), .int .i64 (0), .bool false]) (by simp [results, Tryz.results139, go_sem]) rfl ⟨rfl, (by exact tacT)⟩
 have g3 : (k == 3) = false := by simp; omega
 clear ha hb hd k1 k2 k3
 go_enter Tryz.func139, Tryz.ntmps139
 go_wp2_with (first | (go_at_call 43; refine (l01In_any _ _ _ _).mono ?_; rintro e w' ⟨rfl, rfl⟩) | (go_at_call 159; refine (l04Water_any _ _).mono ?_; rintro e w' ⟨rfl, rfl⟩))
 rw [E1.out]
 exact bodyPost_ret (v := .tuple #[.int .i64 (level), .int .i64 (0), .int .i64 (0), .int .i64 (0), .bool false]) (by simp [results, Tryz.results139, go_sem]) rfl ⟨rfl, (by exact tacT)⟩
end
end Go.Proofs.YtpmmjhpmheooeaaGreatDoor
