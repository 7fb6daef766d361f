/- Events: the copy, EventOn. The water book: counted, BookOk. The reference's count of a book. BookOk. Copies of a book. Strike. DrunkBy. What a valid book bounds. Marks in a book, and the look for them. The law side's own helpers on books: copy, compare, count. -/
import Derived.Test.YtpmmjhpmheooeaaDoorKa
import Derived.Deep.RegionHeld3
import Derived.Deep.DeepCutAuto
import Derived.StillTailTactics
import Derived.Test.YtpmmjhpmheooeaaDoorRightAt
import Derived.Test.YtpmmjhpmheooeaaDoorKb
namespace Go.Proofs.YtpmmjhpmheooeaaDoor
set_option linter.unusedSimpArgs false
set_option linter.unusedVariables false
open Go.RowKit
/-- new level, rained, drunk, lost, ok -/
def evOn (level room k l o : Int) : Int × Int × Int × Int × Bool :=
  if !(inB room 1 1000000 && inB level 0 room && inB l 0 1000000) then (level, 0, 0, 0, false)
  else if k = 1 ∧ o = 0 then (level + min l (room - level), l, 0, l - min l (room - level), true)
  else if k = 2 ∧ (1 ≤ o ∧ o ≤ 999) ∧ l ≤ level then (level - l, 0, l, 0, true)
  else if k = 3 ∧ o = 0 ∧ l ≤ level then (level - l, 0, 0, l, true)
  else (level, 0, 0, 0, false)
def evRet (r : Int × Int × Int × Int × Bool) : Ending := .returned (.tuple #[.int .i64 r.1, .int .i64 r.2.1, .int .i64 r.2.2.1, .int .i64 r.2.2.2.1, .bool r.2.2.2.2])
theorem evOn_bad {level room k l o : Int} (h : inB room 1 1000000 = false ∨ inB level 0 room = false ∨ inB l 0 1000000 = false) : evOn level room k l o = (level, 0, 0, 0, false) := by
  unfold evOn; rcases h with h | h | h <;> simp [h]
theorem evOn_good {level room k l o : Int} (h1 : inB room 1 1000000 = true) (h2 : inB level 0 room = true) (h3 : inB l 0 1000000 = true) : evOn level room k l o =
    if k = 1 ∧ o = 0 then (level + min l (room - level), l, 0, l - min l (room - level), true)
    else if k = 2 ∧ (1 ≤ o ∧ o ≤ 999) ∧ l ≤ level then (level - l, 0, l, 0, true)
    else if k = 3 ∧ o = 0 ∧ l ≤ level then (level - l, 0, 0, l, true)
    else (level, 0, 0, 0, false) := by unfold evOn; rw [h1, h2, h3]; rfl
set_option maxHeartbeats 3200000 in
theorem EventOn_any (level room k l o : Int) (w : World) :
    Calls Tryd.prog 100 #[.int .i64 level, .int .i64 room, .agg #[.int .i64 k, .int .i64 l, .int .i64 o]] w fun e w' => e = evRet (evOn level room k l o) ∧ Below w.heap.size w w' := by
  cases h1 : inB room 1 1000000
  · have E1 := Lib.hid (evOn_bad (k := k) (o := o) (level := level) (l := l) (.inl h1))
    go_enter Tryd.func100, Tryd.ntmps100
    go_wp2_with (first | (go_at_call 41; refine (within_any _ _ _ _).mono ?_; rintro e w' ⟨rfl, rfl⟩))
    rw [E1.out]
    exact bodyPost_ret (v := .tuple #[.int .i64 level, .int .i64 0, .int .i64 0, .int .i64 0, .bool false]) (by simp [results, Tryd.results100, go_sem]) rfl ⟨rfl, (by exact tacT)⟩
  cases h2 : inB level 0 room
  · have E1 := Lib.hid (evOn_bad (k := k) (o := o) (l := l) (room := room) (.inr (.inl h2)))
    go_enter Tryd.func100, Tryd.ntmps100
    go_wp2_with (first | (go_at_call 41; refine (within_any _ _ _ _).mono ?_; rintro e w' ⟨rfl, rfl⟩))
    rw [E1.out]
    exact bodyPost_ret (v := .tuple #[.int .i64 level, .int .i64 0, .int .i64 0, .int .i64 0, .bool false]) (by simp [results, Tryd.results100, go_sem]) rfl ⟨rfl, (by exact tacT)⟩
  cases h3 : inB l 0 1000000
  · have E1 := Lib.hid (evOn_bad (k := k) (o := o) (level := level) (room := room) (.inr (.inr h3)))
    go_enter Tryd.func100, Tryd.ntmps100
    go_wp2_with (first | (go_at_call 41; refine (within_any _ _ _ _).mono ?_; rintro e w' ⟨rfl, rfl⟩))
    rw [E1.out]
    exact bodyPost_ret (v := .tuple #[.int .i64 level, .int .i64 0, .int .i64 0, .int .i64 0, .bool false]) (by simp [results, Tryd.results100, go_sem]) rfl ⟨rfl, (by exact tacT)⟩
  have e0 := evOn_good (k := k) (o := o) h1 h2 h3
  obtain ⟨r1, r2⟩ := inB_iff.1 h1
  obtain ⟨v1, v2⟩ := inB_iff.1 h2
  obtain ⟨l1, l2⟩ := inB_iff.1 h3
  by_cases ha : k = 1 ∧ o = 0
  · rw [if_pos ha] at e0
    have E1 := Lib.hid e0; clear e0
    obtain ⟨rfl, rfl⟩ := ha
    by_cases hm : l ≤ room - level
    all_goals
      go_enter Tryd.func100, Tryd.ntmps100
      go_wp2_with (first | (go_at_call 41; refine (within_any _ _ _ _).mono ?_; rintro e w' ⟨rfl, rfl⟩))
      have q1 : IntKind.i64.wrap (level + l) = level + l := IntWalk.i64_in _ (by omega)
      have q2 : IntKind.i64.wrap (l - l) = l - l := IntWalk.i64_in _ (by omega)
      have q3 : IntKind.i64.wrap (level + (room - level)) = level + (room - level) := IntWalk.i64_in _ (by omega)
      have q4 : IntKind.i64.wrap (l - (room - level)) = l - (room - level) := IntWalk.i64_in _ (by omega)
      go_quiet (fail)
      clear q1 q2 q3 q4
      go_wp2
      rw [E1.out]
    · have e1 : min l (room - level) = l := by omega
      rw [e1]
      exact bodyPost_ret (v := .tuple #[.int .i64 (level + l), .int .i64 (l), .int .i64 (0), .int .i64 (l - l), .bool true]) (by simp [results, Tryd.results100, go_sem]) rfl ⟨rfl, (by exact tacT)⟩
    · have e1 : min l (room - level) = room - level := by omega
      rw [e1]
      exact bodyPost_ret (v := .tuple #[.int .i64 (level + (room - level)), .int .i64 (l), .int .i64 (0), .int .i64 (l - (room - level)), .bool true]) (by simp [results, Tryd.results100, go_sem]) rfl ⟨rfl, (by exact tacT)⟩
  rw [if_neg ha] at e0
  by_cases hb : k = 2 ∧ (1 ≤ o ∧ o ≤ 999) ∧ l ≤ level
  · rw [if_pos hb] at e0
    have E1 := Lib.hid e0; clear e0 ha
    obtain ⟨rfl, ⟨o1, o2⟩, hl⟩ := hb
    have h9 : inB o 1 999 = true := inB_iff.2 ⟨o1, o2⟩
    go_enter Tryd.func100, Tryd.ntmps100
    go_wp2_with (first | (go_at_call 41; refine (within_any _ _ _ _).mono ?_; rintro e w' ⟨rfl, rfl⟩))
    have q1 : IntKind.i64.wrap (level - l) = level - l := IntWalk.i64_in _ (by omega)
    go_quiet (fail)
    clear q1
    go_wp2
    rw [E1.out]
    exact bodyPost_ret (v := .tuple #[.int .i64 (level - l), .int .i64 (0), .int .i64 (l), .int .i64 (0), .bool true]) (by simp [results, Tryd.results100, go_sem]) rfl ⟨rfl, (by exact tacT)⟩
  rw [if_neg hb] at e0
  by_cases hd : k = 3 ∧ o = 0 ∧ l ≤ level
  · rw [if_pos hd] at e0
    have E1 := Lib.hid e0; clear e0 ha hb
    obtain ⟨rfl, rfl, hl⟩ := hd
    go_enter Tryd.func100, Tryd.ntmps100
    go_wp2_with (first | (go_at_call 41; refine (within_any _ _ _ _).mono ?_; rintro e w' ⟨rfl, rfl⟩))
    have q1 : IntKind.i64.wrap (level - l) = level - l := IntWalk.i64_in _ (by omega)
    go_quiet (fail)
    clear q1
    go_wp2
    rw [E1.out]
    exact bodyPost_ret (v := .tuple #[.int .i64 (level - l), .int .i64 (0), .int .i64 (0), .int .i64 (l), .bool true]) (by simp [results, Tryd.results100, go_sem]) rfl ⟨rfl, (by exact tacT)⟩
  rw [if_neg hd] at e0
  have E1 := Lib.hid e0; clear e0
  by_cases k1 : k = 1
  · subst k1
    have o0 : (o == 0) = false := by simp; omega
    clear ha hb hd
    go_enter Tryd.func100, Tryd.ntmps100
    go_wp2_with (first | (go_at_call 41; refine (within_any _ _ _ _).mono ?_; rintro e w' ⟨rfl, rfl⟩))
    rw [E1.out]
    exact bodyPost_ret (v := .tuple #[.int .i64 (level), .int .i64 (0), .int .i64 (0), .int .i64 (0), .bool false]) (by simp [results, Tryd.results100, go_sem]) rfl ⟨rfl, (by exact tacT)⟩
  by_cases k2 : k = 2
  · subst k2
    cases h9 : inB o 1 999
    · clear ha hb hd
      go_enter Tryd.func100, Tryd.ntmps100
      go_wp2_with (first | (go_at_call 41; refine (within_any _ _ _ _).mono ?_; rintro e w' ⟨rfl, rfl⟩))
      rw [E1.out]
      exact bodyPost_ret (v := .tuple #[.int .i64 (level), .int .i64 (0), .int .i64 (0), .int .i64 (0), .bool false]) (by simp [results, Tryd.results100, go_sem]) rfl ⟨rfl, (by exact tacT)⟩
    · have hl : ¬ l ≤ level := fun h => hb ⟨rfl, inB_iff.1 h9, h⟩
      clear ha hb hd
      go_enter Tryd.func100, Tryd.ntmps100
      go_wp2_with (first | (go_at_call 41; refine (within_any _ _ _ _).mono ?_; rintro e w' ⟨rfl, rfl⟩))
      rw [E1.out]
      exact bodyPost_ret (v := .tuple #[.int .i64 (level), .int .i64 (0), .int .i64 (0), .int .i64 (0), .bool false]) (by simp [results, Tryd.results100, go_sem]) rfl ⟨rfl, (by exact tacT)⟩
  have g1 : (k == 1) = false := by simp; omega
  have g2 : (k == 2) = false := by simp; omega
  by_cases k3 : k = 3
  · subst k3
    by_cases o0 : o = 0
    · subst o0
      have hl : ¬ l ≤ level := fun h => hd ⟨rfl, rfl, h⟩
      clear ha hb hd
      go_enter Tryd.func100, Tryd.ntmps100
      go_wp2_with (first | (go_at_call 41; refine (within_any _ _ _ _).mono ?_; rintro e w' ⟨rfl, rfl⟩))
      rw [E1.out]
      exact bodyPost_ret (v := .tuple #[.int .i64 (level), .int .i64 (0), .int .i64 (0), .int .i64 (0), .bool false]) (by simp [results, Tryd.results100, go_sem]) rfl ⟨rfl, (by exact tacT)⟩
    · have o1 : (o == 0) = false := by simp; omega
      clear ha hb hd
      go_enter Tryd.func100, Tryd.ntmps100
      go_wp2_with (first | (go_at_call 41; refine (within_any _ _ _ _).mono ?_; rintro e w' ⟨rfl, rfl⟩))
      rw [E1.out]
      exact bodyPost_ret (v := .tuple #[.int .i64 (level), .int .i64 (0), .int .i64 (0), .int .i64 (0), .bool false]) (by simp [results, Tryd.results100, go_sem]) rfl ⟨rfl, (by exact tacT)⟩
  have g3 : (k == 3) = false := by simp; omega
  clear ha hb hd k1 k2 k3
  go_enter Tryd.func100, Tryd.ntmps100
  go_wp2_with (first | (go_at_call 41; refine (within_any _ _ _ _).mono ?_; rintro e w' ⟨rfl, rfl⟩))
  rw [E1.out]
  exact bodyPost_ret (v := .tuple #[.int .i64 (level), .int .i64 (0), .int .i64 (0), .int .i64 (0), .bool false]) (by simp [results, Tryd.results100, go_sem]) rfl ⟨rfl, (by exact tacT)⟩
set_option maxHeartbeats 3200000 in
theorem EventOnS_any (level room k l o : Int) (w : World) :
    Calls Tryd.prog 116 #[.int .i64 level, .int .i64 room, .agg #[.int .i64 k, .int .i64 l, .int .i64 o]] w fun e w' => e = evRet (evOn level room k l o) ∧ Below w.heap.size w w' := by
  cases h1 : inB room 1 1000000
  · have E1 := Lib.hid (evOn_bad (k := k) (o := o) (level := level) (l := l) (.inl h1))
    go_enter Tryd.func116, Tryd.ntmps116
    go_wp2_with (first | (go_at_call 25; refine (l01In_any _ _ _ _).mono ?_; rintro e w' ⟨rfl, rfl⟩) | (go_at_call 119; refine (l04Water_any _ _).mono ?_; rintro e w' ⟨rfl, rfl⟩))
    rw [E1.out]
    exact bodyPost_ret (v := .tuple #[.int .i64 level, .int .i64 0, .int .i64 0, .int .i64 0, .bool false]) (by simp [results, Tryd.results116, go_sem]) rfl ⟨rfl, (by exact tacT)⟩
  cases h2 : inB level 0 room
  · have E1 := Lib.hid (evOn_bad (k := k) (o := o) (l := l) (room := room) (.inr (.inl h2)))
    go_enter Tryd.func116, Tryd.ntmps116
    go_wp2_with (first | (go_at_call 25; refine (l01In_any _ _ _ _).mono ?_; rintro e w' ⟨rfl, rfl⟩) | (go_at_call 119; refine (l04Water_any _ _).mono ?_; rintro e w' ⟨rfl, rfl⟩))
    rw [E1.out]
    exact bodyPost_ret (v := .tuple #[.int .i64 level, .int .i64 0, .int .i64 0, .int .i64 0, .bool false]) (by simp [results, Tryd.results116, go_sem]) rfl ⟨rfl, (by exact tacT)⟩
  cases h3 : inB l 0 1000000
  · have E1 := Lib.hid (evOn_bad (k := k) (o := o) (level := level) (room := room) (.inr (.inr h3)))
    go_enter Tryd.func116, Tryd.ntmps116
    go_wp2_with (first | (go_at_call 25; refine (l01In_any _ _ _ _).mono ?_; rintro e w' ⟨rfl, rfl⟩) | (go_at_call 119; refine (l04Water_any _ _).mono ?_; rintro e w' ⟨rfl, rfl⟩))
    rw [E1.out]
    exact bodyPost_ret (v := .tuple #[.int .i64 level, .int .i64 0, .int .i64 0, .int .i64 0, .bool false]) (by simp [results, Tryd.results116, go_sem]) rfl ⟨rfl, (by exact tacT)⟩
  have e0 := evOn_good (k := k) (o := o) h1 h2 h3
  obtain ⟨r1, r2⟩ := inB_iff.1 h1
  obtain ⟨v1, v2⟩ := inB_iff.1 h2
  obtain ⟨l1, l2⟩ := inB_iff.1 h3
  by_cases ha : k = 1 ∧ o = 0
  · rw [if_pos ha] at e0
    have E1 := Lib.hid e0; clear e0
    obtain ⟨rfl, rfl⟩ := ha
    by_cases hm : l ≤ room - level
    all_goals
      go_enter Tryd.func116, Tryd.ntmps116
      go_wp2_with (first | (go_at_call 25; refine (l01In_any _ _ _ _).mono ?_; rintro e w' ⟨rfl, rfl⟩) | (go_at_call 119; refine (l04Water_any _ _).mono ?_; rintro e w' ⟨rfl, rfl⟩))
      have q1 : IntKind.i64.wrap (level + l) = level + l := IntWalk.i64_in _ (by omega)
      have q2 : IntKind.i64.wrap (l - l) = l - l := IntWalk.i64_in _ (by omega)
      have q3 : IntKind.i64.wrap (level + (room - level)) = level + (room - level) := IntWalk.i64_in _ (by omega)
      have q4 : IntKind.i64.wrap (l - (room - level)) = l - (room - level) := IntWalk.i64_in _ (by omega)
      go_quiet (fail)
      clear q1 q2 q3 q4
      go_wp2
      rw [E1.out]
    · have e1 : min l (room - level) = l := by omega
      rw [e1]
      exact bodyPost_ret (v := .tuple #[.int .i64 (level + l), .int .i64 (l), .int .i64 (0), .int .i64 (l - l), .bool true]) (by simp [results, Tryd.results116, go_sem]) rfl ⟨rfl, (by exact tacT)⟩
    · have e1 : min l (room - level) = room - level := by omega
      rw [e1]
      exact bodyPost_ret (v := .tuple #[.int .i64 (level + (room - level)), .int .i64 (l), .int .i64 (0), .int .i64 (l - (room - level)), .bool true]) (by simp [results, Tryd.results116, go_sem]) rfl ⟨rfl, (by exact tacT)⟩
  rw [if_neg ha] at e0
  by_cases hb : k = 2 ∧ (1 ≤ o ∧ o ≤ 999) ∧ l ≤ level
  · rw [if_pos hb] at e0
    have E1 := Lib.hid e0; clear e0 ha
    obtain ⟨rfl, ⟨o1, o2⟩, hl⟩ := hb
    have h9 : inB o 1 999 = true := inB_iff.2 ⟨o1, o2⟩
    go_enter Tryd.func116, Tryd.ntmps116
    go_wp2_with (first | (go_at_call 25; refine (l01In_any _ _ _ _).mono ?_; rintro e w' ⟨rfl, rfl⟩) | (go_at_call 119; refine (l04Water_any _ _).mono ?_; rintro e w' ⟨rfl, rfl⟩))
    have q1 : IntKind.i64.wrap (level - l) = level - l := IntWalk.i64_in _ (by omega)
    go_quiet (fail)
    clear q1
    go_wp2
    rw [E1.out]
    exact bodyPost_ret (v := .tuple #[.int .i64 (level - l), .int .i64 (0), .int .i64 (l), .int .i64 (0), .bool true]) (by simp [results, Tryd.results116, go_sem]) rfl ⟨rfl, (by exact tacT)⟩
  rw [if_neg hb] at e0
  by_cases hd : k = 3 ∧ o = 0 ∧ l ≤ level
  · rw [if_pos hd] at e0
    have E1 := Lib.hid e0; clear e0 ha hb
    obtain ⟨rfl, rfl, hl⟩ := hd
    go_enter Tryd.func116, Tryd.ntmps116
    go_wp2_with (first | (go_at_call 25; refine (l01In_any _ _ _ _).mono ?_; rintro e w' ⟨rfl, rfl⟩) | (go_at_call 119; refine (l04Water_any _ _).mono ?_; rintro e w' ⟨rfl, rfl⟩))
    have q1 : IntKind.i64.wrap (level - l) = level - l := IntWalk.i64_in _ (by omega)
    go_quiet (fail)
    clear q1
    go_wp2
    rw [E1.out]
    exact bodyPost_ret (v := .tuple #[.int .i64 (level - l), .int .i64 (0), .int .i64 (0), .int .i64 (l), .bool true]) (by simp [results, Tryd.results116, go_sem]) rfl ⟨rfl, (by exact tacT)⟩
  rw [if_neg hd] at e0
  have E1 := Lib.hid e0; clear e0
  by_cases k1 : k = 1
  · subst k1
    have o0 : (o == 0) = false := by simp; omega
    clear ha hb hd
    go_enter Tryd.func116, Tryd.ntmps116
    go_wp2_with (first | (go_at_call 25; refine (l01In_any _ _ _ _).mono ?_; rintro e w' ⟨rfl, rfl⟩) | (go_at_call 119; refine (l04Water_any _ _).mono ?_; rintro e w' ⟨rfl, rfl⟩))
    rw [E1.out]
    exact bodyPost_ret (v := .tuple #[.int .i64 (level), .int .i64 (0), .int .i64 (0), .int .i64 (0), .bool false]) (by simp [results, Tryd.results116, go_sem]) rfl ⟨rfl, (by exact tacT)⟩
  by_cases k2 : k = 2
  · subst k2
    cases h9 : inB o 1 999
    · clear ha hb hd
      go_enter Tryd.func116, Tryd.ntmps116
      go_wp2_with (first | (go_at_call 25; refine (l01In_any _ _ _ _).mono ?_; rintro e w' ⟨rfl, rfl⟩) | (go_at_call 119; refine (l04Water_any _ _).mono ?_; rintro e w' ⟨rfl, rfl⟩))
      rw [E1.out]
      exact bodyPost_ret (v := .tuple #[.int .i64 (level), .int .i64 (0), .int .i64 (0), .int .i64 (0), .bool false]) (by simp [results, Tryd.results116, go_sem]) rfl ⟨rfl, (by exact tacT)⟩
    · have hl : ¬ l ≤ level := fun h => hb ⟨rfl, inB_iff.1 h9, h⟩
      clear ha hb hd
      go_enter Tryd.func116, Tryd.ntmps116
      go_wp2_with (first | (go_at_call 25; refine (l01In_any _ _ _ _).mono ?_; rintro e w' ⟨rfl, rfl⟩) | (go_at_call 119; refine (l04Water_any _ _).mono ?_; rintro e w' ⟨rfl, rfl⟩))
      rw [E1.out]
      exact bodyPost_ret (v := .tuple #[.int .i64 (level), .int .i64 (0), .int .i64 (0), .int .i64 (0), .bool false]) (by simp [results, Tryd.results116, go_sem]) rfl ⟨rfl, (by exact tacT)⟩
  have g1 : (k == 1) = false := by simp; omega
  have g2 : (k == 2) = false := by simp; omega
  by_cases k3 : k = 3
  · subst k3
    by_cases o0 : o = 0
    · subst o0
      have hl : ¬ l ≤ level := fun h => hd ⟨rfl, rfl, h⟩
      clear ha hb hd
      go_enter Tryd.func116, Tryd.ntmps116
      go_wp2_with (first | (go_at_call 25; refine (l01In_any _ _ _ _).mono ?_; rintro e w' ⟨rfl, rfl⟩) | (go_at_call 119; refine (l04Water_any _ _).mono ?_; rintro e w' ⟨rfl, rfl⟩))
      rw [E1.out]
      exact bodyPost_ret (v := .tuple #[.int .i64 (level), .int .i64 (0), .int .i64 (0), .int .i64 (0), .bool false]) (by simp [results, Tryd.results116, go_sem]) rfl ⟨rfl, (by exact tacT)⟩
    · have o1 : (o == 0) = false := by simp; omega
      clear ha hb hd
      go_enter Tryd.func116, Tryd.ntmps116
      go_wp2_with (first | (go_at_call 25; refine (l01In_any _ _ _ _).mono ?_; rintro e w' ⟨rfl, rfl⟩) | (go_at_call 119; refine (l04Water_any _ _).mono ?_; rintro e w' ⟨rfl, rfl⟩))
      rw [E1.out]
      exact bodyPost_ret (v := .tuple #[.int .i64 (level), .int .i64 (0), .int .i64 (0), .int .i64 (0), .bool false]) (by simp [results, Tryd.results116, go_sem]) rfl ⟨rfl, (by exact tacT)⟩
  have g3 : (k == 3) = false := by simp; omega
  clear ha hb hd k1 k2 k3
  go_enter Tryd.func116, Tryd.ntmps116
  go_wp2_with (first | (go_at_call 25; refine (l01In_any _ _ _ _).mono ?_; rintro e w' ⟨rfl, rfl⟩) | (go_at_call 119; refine (l04Water_any _ _).mono ?_; rintro e w' ⟨rfl, rfl⟩))
  rw [E1.out]
  exact bodyPost_ret (v := .tuple #[.int .i64 (level), .int .i64 (0), .int .i64 (0), .int .i64 (0), .bool false]) (by simp [results, Tryd.results116, go_sem]) rfl ⟨rfl, (by exact tacT)⟩
end Go.Proofs.YtpmmjhpmheooeaaDoor

namespace Go.Proofs.YtpmmjhpmheooeaaDoor
set_option linter.unusedSimpArgs false
set_option linter.unusedVariables false
open Go.RowKit
theorem infoEv : (Tryd.prog.info? 110).map (fun i => (i.zero, i.size, i.bytes)) = some (some (.agg #[.int .i64 0, .int .i64 0, .int .i64 0]), 3, 24) := by kernel_rfl
/-- What a list of events makes of level, rained, drunk and lost; false as soon as one fails. -/
def runEv (room : Int) : List T3 → Int → Int → Int → Int → Int × Int × Int × Int × Bool
  | [], v, r, d, l => (v, r, d, l, true)
  | e :: es, v, r, d, l => if (evOn v room e.x e.y e.z).2.2.2.2 then runEv room es (evOn v room e.x e.y e.z).1 (r + (evOn v room e.x e.y e.z).2.1) (d + (evOn v room e.x e.y e.z).2.2.1) (l + (evOn v room e.x e.y e.z).2.2.2.1) else (v, r, d, l, false)
theorem runEv_cons (room : Int) (e : T3) (es : List T3) (v r d l : Int) : runEv room (e :: es) v r d l = if (evOn v room e.x e.y e.z).2.2.2.2 then runEv room es (evOn v room e.x e.y e.z).1 (r + (evOn v room e.x e.y e.z).2.1) (d + (evOn v room e.x e.y e.z).2.2.1) (l + (evOn v room e.x e.y e.z).2.2.2.1) else (v, r, d, l, false) := rfl
theorem evOn_bounds (v room k l o : Int) (h : (evOn v room k l o).2.2.2.2 = true) : 0 ≤ (evOn v room k l o).2.1 ∧ (evOn v room k l o).2.1 ≤ 1000000 ∧ 0 ≤ (evOn v room k l o).2.2.1 ∧ (evOn v room k l o).2.2.1 ≤ 1000000 ∧ 0 ≤ (evOn v room k l o).2.2.2.1 ∧ (evOn v room k l o).2.2.2.1 ≤ 1000000 := by
  unfold evOn at h ⊢
  by_cases hb : (!(inB room 1 1000000 && inB v 0 room && inB l 0 1000000)) = true
  · rw [if_pos hb] at h; cases h
  · rw [if_neg hb] at h ⊢
    simp [inB] at hb
    by_cases h1 : k = 1 ∧ o = 0
    · rw [if_pos h1]; refine ⟨?_, ?_, ?_, ?_, ?_, ?_⟩ <;> simp only [] <;> omega
    · rw [if_neg h1] at h ⊢
      by_cases h2 : k = 2 ∧ (1 ≤ o ∧ o ≤ 999) ∧ l ≤ v
      · rw [if_pos h2]; refine ⟨?_, ?_, ?_, ?_, ?_, ?_⟩ <;> simp only [] <;> omega
      · rw [if_neg h2] at h ⊢
        by_cases h3 : k = 3 ∧ o = 0 ∧ l ≤ v
        · rw [if_pos h3]; refine ⟨?_, ?_, ?_, ?_, ?_, ?_⟩ <;> simp only [] <;> omega
        · rw [if_neg h3] at h; cases h
def countBk (room start : Int) (l : List T3) : Int × Int × Int × Int × Bool :=
  if inB room 1 1000000 && inB start 0 room && decide (l.length ≤ 40) then runEv room l start 0 0 0 else (start, 0, 0, 0, false)
structure Bk where
  room : Int
  start : Int
  evs : List T3
  level : Int
  rained : Int
  drunk : Int
  lost : Int
def Bk.val (b : Bk) (A : Option Addr) (c : Nat) : Value := .agg #[.int .i64 b.room, .int .i64 b.start, .slice A b.evs.length c, .int .i64 b.level, .int .i64 b.rained, .int .i64 b.drunk, .int .i64 b.lost]
set_option maxHeartbeats 1600000 in
theorem counted_any (room start : Int) (A : Option Addr) (c : Nat) (l : List T3) (w : World) (h : RdT w w.heap.size A c l) (h41 : l.length ≤ 41) :
    Calls Tryd.prog 85 #[.int .i64 room, .int .i64 start, .slice A l.length c] w fun e w' => ∃ A' c', e = .returned (.tuple #[.agg #[.int .i64 room, .int .i64 start, .slice A' l.length c', .int .i64 (runEv room l start 0 0 0).1, .int .i64 (runEv room l start 0 0 0).2.1, .int .i64 (runEv room l start 0 0 0).2.2.1, .int .i64 (runEv room l start 0 0 0).2.2.2.1], .bool (runEv room l start 0 0 0).2.2.2.2]) ∧ w'.ownsRow w.heap.size 110 3 (.slice A' l.length c') l.length (t3s l) ∧ Below w.heap.size w w' := by
  obtain ⟨hl, hm⟩ := h.le
  obtain ⟨R, hR⟩ : ∃ R, R = runEv room l start 0 0 0 := ⟨_, rfl⟩
  rw [← hR]
  have HR := Lib.hid hR; clear hR
  go_enter Tryd.func85, Tryd.ntmps85
  go_wp2_with (at_builtin; refine wpList_appAll rfl _ _ 30 rfl (w.heap.size + 1) 110 (.agg #[.int .i64 0, .int .i64 0, .int .i64 0]) 3 24 Tryd.underlying30 infoEv rfl (by decide) (.slice none 0 0) 0 [] rfl (World.ownsRow_nil _ _ _ _) _ A l.length c (t3s l) rfl (h.below ((Below.refl _ _).alloc (Nat.le_refl _) _)) (t3s_one l) (by omega) (by omega) (by simp) ?_)
  intro A1 c1 w1 ho1 hg1
  try simp only [Nat.zero_add, List.nil_append] at ho1
  have hb1 : Below w.heap.size w w1 := ((Below.refl _ _).alloc (Nat.le_refl _) _).grown hg1 (by simp) (by simp [Value.ownBlock])
  have ho1 := Row2.born ho1
  have hk1 : Blk w1 w.heap.size 32 #[.int .i64 0, .int .i64 0, .slice none 0 0, .int .i64 0, .int .i64 0, .int .i64 0, .int .i64 0] := (Blk.new w _ _).grown hg1 (by simp [Value.ownBlock])
  have hz1 : w.heap.size < w1.heap.size := hk1.lt
  have H1 := Lib.hid (And.intro ho1 (And.intro hb1 hk1))
  clear ho1 hb1 hk1 hg1
  try simp only [Nat.zero_add]
  go_wp2
  go_loopw [24] (fun i wr => ∃ (k : Nat) (v r d lo : Int), k ≤ l.length ∧ i = .int .i64 k ∧ Blk wr w1.heap.size 32 #[.int .i64 room, .int .i64 start, .slice A1 l.length c1, .int .i64 v, .int .i64 r, .int .i64 d, .int .i64 lo] ∧ (Blk wr w.heap.size 32 #[.int .i64 0, .int .i64 0, .slice none 0 0, .int .i64 0, .int .i64 0, .int .i64 0, .int .i64 0] ∧ Row2 wr (w.heap.size + 1) w1.heap.size 110 3 A1 l.length c1 (t3s l) ∧ Below w.heap.size w wr) ∧ runEv room (l.drop k) v r d lo = R ∧ 0 ≤ r ∧ r ≤ 1000000 * k ∧ 0 ≤ d ∧ d ≤ 1000000 * k ∧ 0 ≤ lo ∧ lo ≤ 1000000 * k) (fun i _ => l.length - (intOf i).toNat)
  case atStart =>
    refine ⟨0, start, 0, 0, 0, Nat.zero_le _, rfl, Blk.new _ _ _, ⟨H1.out.2.2.alloc _, H1.out.1.alloc _, H1.out.2.1.alloc (by omega) _⟩, HR.out.symm, by omega, by omega, by omega, by omega, by omega, by omega⟩
  case round =>
    obtain ⟨k, v, r, d, lo, hk, rfl, hbk, hrest, hrun, r0, r1, d0, d1, l0, l1⟩ := hrel
    have q0 : wr.cell? ⟨w1.heap.size, 0, none⟩ = some (.int .i64 room) := hbk.cell 0
    have q1 : wr.cell? ⟨w1.heap.size, 1, none⟩ = some (.int .i64 start) := hbk.cell 1
    have q2 : wr.cell? ⟨w1.heap.size, 2, none⟩ = some (.slice A1 l.length c1) := hbk.cell 2
    have q3 : wr.cell? ⟨w1.heap.size, 3, none⟩ = some (.int .i64 v) := hbk.cell 3
    have q4 : wr.cell? ⟨w1.heap.size, 4, none⟩ = some (.int .i64 r) := hbk.cell 4
    have q5 : wr.cell? ⟨w1.heap.size, 5, none⟩ = some (.int .i64 d) := hbk.cell 5
    have q6 : wr.cell? ⟨w1.heap.size, 6, none⟩ = some (.int .i64 lo) := hbk.cell 6
    have hzr : w1.heap.size < wr.heap.size := hbk.lt
    by_cases hlt : k < l.length
    · obtain ⟨b, o, t, rfl, hbb, hx, e0, e1, e2⟩ := h.at_ hlt
      have f0 : wr.cell? ⟨b, o + k * 3, none⟩ = some (.int .i64 t.x) := (hrest.2.2.cell (p := ⟨b, _, none⟩) hbb).trans e0
      have f1 : wr.cell? ⟨b, o + k * 3 + 1, none⟩ = some (.int .i64 t.y) := (hrest.2.2.cell (p := ⟨b, _, none⟩) hbb).trans e1
      have f2 : wr.cell? ⟨b, o + k * 3 + 2, none⟩ = some (.int .i64 t.z) := (hrest.2.2.cell (p := ⟨b, _, none⟩) hbb).trans e2
      clear e0 e1 e2
      have hbr : b < wr.heap.size := by omega
      have HX := Lib.hid (And.intro hx (And.intro hbk (And.intro hrest hrun)))
      clear hx hbk hrest hrun
      go_wp2_with fail
      obtain ⟨v', r', d', l', ok, he⟩ : ∃ v' r' d' l' ok, evOn v room t.x t.y t.z = (v', r', d', l', ok) := ⟨_, _, _, _, _, rfl⟩
      have hcall := EventOn_any v room t.x t.y t.z (wr.alloc (.cells #[.int .i64 t.x, .int .i64 t.y, .int .i64 t.z] 110))
      rw [he] at hcall
      unfold evRet at hcall
      have hbd := evOn_bounds v room t.x t.y t.z
      rw [he] at hbd
      have HE := Lib.hid he; clear he
      refine hcall.mono ?_
      clear hcall q0 q1 q2 q3 q4 q5 q6
      rintro e w2 ⟨rfl, hb2⟩
      have hbk2 := (HX.out.2.1.alloc (.cells #[.int .i64 t.x, .int .i64 t.y, .int .i64 t.z] 110)).below hb2 (by simp; omega)
      have hk02 := (HX.out.2.2.1.1.alloc (.cells #[.int .i64 t.x, .int .i64 t.y, .int .i64 t.z] 110)).below hb2 (by simp; omega)
      have ho2 := (HX.out.2.2.1.2.1.alloc (.cells #[.int .i64 t.x, .int .i64 t.y, .int .i64 t.z] 110)).below hb2 (by simp; omega)
      have hB2 := (HX.out.2.2.1.2.2.alloc (by omega) (.cells #[.int .i64 t.x, .int .i64 t.y, .int .i64 t.z] 110)).trans (hb2.mono (by simp; omega))
      have hz2 : wr.heap.size < w2.heap.size := by have := hb2.size; simp at this; omega
      have p0 : w2.cell? ⟨w1.heap.size, 0, none⟩ = some (.int .i64 room) := hbk2.cell 0
      have g0 : w2.frozen? ⟨w1.heap.size, 0, none⟩ = false := hbk2.frozen 0
      have p1 : w2.cell? ⟨w1.heap.size, 1, none⟩ = some (.int .i64 start) := hbk2.cell 1
      have g1 : w2.frozen? ⟨w1.heap.size, 1, none⟩ = false := hbk2.frozen 1
      have p2 : w2.cell? ⟨w1.heap.size, 2, none⟩ = some (.slice A1 l.length c1) := hbk2.cell 2
      have g2 : w2.frozen? ⟨w1.heap.size, 2, none⟩ = false := hbk2.frozen 2
      have p3 : w2.cell? ⟨w1.heap.size, 3, none⟩ = some (.int .i64 v) := hbk2.cell 3
      have g3 : w2.frozen? ⟨w1.heap.size, 3, none⟩ = false := hbk2.frozen 3
      have p4 : w2.cell? ⟨w1.heap.size, 4, none⟩ = some (.int .i64 r) := hbk2.cell 4
      have g4 : w2.frozen? ⟨w1.heap.size, 4, none⟩ = false := hbk2.frozen 4
      have p5 : w2.cell? ⟨w1.heap.size, 5, none⟩ = some (.int .i64 d) := hbk2.cell 5
      have g5 : w2.frozen? ⟨w1.heap.size, 5, none⟩ = false := hbk2.frozen 5
      have p6 : w2.cell? ⟨w1.heap.size, 6, none⟩ = some (.int .i64 lo) := hbk2.cell 6
      have g6 : w2.frozen? ⟨w1.heap.size, 6, none⟩ = false := hbk2.frozen 6
      have hrun := HX.out.2.2.2
      rw [drop_cons HX.out.1, runEv_cons, HE.out] at hrun
      have HR2 := Lib.hid (And.intro hbk2 (And.intro hk02 (And.intro ho2 (And.intro hB2 hrun))))
      clear hb2 hbk2 ho2 hB2 hrun f0 f1 f2
      cases ok
      · obtain ⟨z0, z1, z2, z3, z4, z5, z6⟩ : w2.cell? ⟨w.heap.size, 0, none⟩ = some (.int .i64 0) ∧ w2.cell? ⟨w.heap.size, 1, none⟩ = some (.int .i64 0) ∧ w2.cell? ⟨w.heap.size, 2, none⟩ = some (.slice none 0 0) ∧ w2.cell? ⟨w.heap.size, 3, none⟩ = some (.int .i64 0) ∧ w2.cell? ⟨w.heap.size, 4, none⟩ = some (.int .i64 0) ∧ w2.cell? ⟨w.heap.size, 5, none⟩ = some (.int .i64 0) ∧ w2.cell? ⟨w.heap.size, 6, none⟩ = some (.int .i64 0) := ⟨hk02.cell 0, hk02.cell 1, hk02.cell 2, hk02.cell 3, hk02.cell 4, hk02.cell 5, hk02.cell 6⟩
        obtain ⟨y0, y1, y2, y3, y4, y5, y6⟩ : w2.frozen? ⟨w.heap.size, 0, none⟩ = false ∧ w2.frozen? ⟨w.heap.size, 1, none⟩ = false ∧ w2.frozen? ⟨w.heap.size, 2, none⟩ = false ∧ w2.frozen? ⟨w.heap.size, 3, none⟩ = false ∧ w2.frozen? ⟨w.heap.size, 4, none⟩ = false ∧ w2.frozen? ⟨w.heap.size, 5, none⟩ = false ∧ w2.frozen? ⟨w.heap.size, 6, none⟩ = false := ⟨hk02.frozen 0, hk02.frozen 1, hk02.frozen 2, hk02.frozen 3, hk02.frozen 4, hk02.frozen 5, hk02.frozen 6⟩
        clear hk02
        go_wp2
        have e1 : R = (v, r, d, lo, false) := HR2.out.2.2.2.2.symm
        have hB2 := HR2.out.2.2.2.1
        have ho2 := HR2.out.2.2.1
        rw [e1]
        refine bodyPost_ret (v := .tuple #[.agg #[.int .i64 room, .int .i64 start, .slice A1 l.length c1, .int .i64 v, .int .i64 r, .int .i64 d, .int .i64 lo], .bool false]) ?_ rfl ?_
        · simp [results, Tryd.results85, go_sem, z0, z1, z2, z3, z4, z5, z6]
        · refine ⟨A1, c1, rfl, ?_, ?_⟩
          · refine (Row2.mono (lo := w.heap.size + 1) (lo' := w.heap.size) (hi := w1.heap.size) (hi' := w1.heap.size) ?_ (by omega) (Nat.le_refl _)).1
            repeat' (first | (with_reducible assumption) | (with_reducible refine Row2.far ?_ ?_ _) | (with_reducible refine Row2.alloc ?_ _) | (with_reducible refine Row2.drewN ?_ _) | (with_reducible refine Row2.drew ?_) | (left; dsimp only; omega) | (right; dsimp only; omega))
          · repeat' (first | (with_reducible exact Below.refl _ _) | (with_reducible assumption) | (with_reducible refine Below.alloc ?_ ?_ _) | (with_reducible refine Below.setCell ?_ ?_ _) | (with_reducible refine Below.drew ?_) | (with_reducible refine below_drewN ?_ _) | (refine Below.trans ?_ (Below.mono (by with_reducible assumption) ?_)) | omega | (simp; done) | (simp; omega))
      · clear hk02
        have hbd' := hbd rfl
        simp only at hbd'
        obtain ⟨b1, b2, b3, b4, b5, b6⟩ := hbd'
        clear hbd
        go_wp2
        go_roundw
        case rel =>
          have hB2 := HR2.out.2.2.2.1
          have ho2 := HR2.out.2.2.1
          refine ⟨k + 1, v', r + r', d + d', lo + l', by omega, by go_num, ?_, ⟨?_, ?_, ?_⟩, HR2.out.2.2.2.2, by omega, by omega, by omega, by omega, by omega, by omega⟩
          · exact ((((HR2.out.1.set_ 3 (.int .i64 v')).set_ 4 (.int .i64 (r + r'))).set_ 5 (.int .i64 (d + d'))).set_ 6 (.int .i64 (lo + l')))
          · exact ((((HR2.out.2.1.far (p := ⟨w1.heap.size, 3, none⟩) (by simp; omega) _).far (p := ⟨w1.heap.size, 4, none⟩) (by simp; omega) _).far (p := ⟨w1.heap.size, 5, none⟩) (by simp; omega) _).far (p := ⟨w1.heap.size, 6, none⟩) (by simp; omega) _)
          · repeat' (first | (with_reducible assumption) | (with_reducible refine Row2.far ?_ ?_ _) | (with_reducible refine Row2.alloc ?_ _) | (with_reducible refine Row2.drewN ?_ _) | (with_reducible refine Row2.drew ?_) | (left; dsimp only; omega) | (right; dsimp only; omega))
          · repeat' (first | (with_reducible exact Below.refl _ _) | (with_reducible assumption) | (with_reducible refine Below.alloc ?_ ?_ _) | (with_reducible refine Below.setCell ?_ ?_ _) | (with_reducible refine Below.drew ?_) | (with_reducible refine below_drewN ?_ _) | (refine Below.trans ?_ (Below.mono (by with_reducible assumption) ?_)) | omega | (simp; done) | (simp; omega))
        case measure => simp [intOf]; omega
    · obtain ⟨hk0, ho, hB⟩ := hrest
      obtain ⟨z0, z1, z2, z3, z4, z5, z6⟩ : wr.cell? ⟨w.heap.size, 0, none⟩ = some (.int .i64 0) ∧ wr.cell? ⟨w.heap.size, 1, none⟩ = some (.int .i64 0) ∧ wr.cell? ⟨w.heap.size, 2, none⟩ = some (.slice none 0 0) ∧ wr.cell? ⟨w.heap.size, 3, none⟩ = some (.int .i64 0) ∧ wr.cell? ⟨w.heap.size, 4, none⟩ = some (.int .i64 0) ∧ wr.cell? ⟨w.heap.size, 5, none⟩ = some (.int .i64 0) ∧ wr.cell? ⟨w.heap.size, 6, none⟩ = some (.int .i64 0) := ⟨hk0.cell 0, hk0.cell 1, hk0.cell 2, hk0.cell 3, hk0.cell 4, hk0.cell 5, hk0.cell 6⟩
      obtain ⟨y0, y1, y2, y3, y4, y5, y6⟩ : wr.frozen? ⟨w.heap.size, 0, none⟩ = false ∧ wr.frozen? ⟨w.heap.size, 1, none⟩ = false ∧ wr.frozen? ⟨w.heap.size, 2, none⟩ = false ∧ wr.frozen? ⟨w.heap.size, 3, none⟩ = false ∧ wr.frozen? ⟨w.heap.size, 4, none⟩ = false ∧ wr.frozen? ⟨w.heap.size, 5, none⟩ = false ∧ wr.frozen? ⟨w.heap.size, 6, none⟩ = false := ⟨hk0.frozen 0, hk0.frozen 1, hk0.frozen 2, hk0.frozen 3, hk0.frozen 4, hk0.frozen 5, hk0.frozen 6⟩
      have e1 : R = (v, r, d, lo, true) := by rw [← hrun, drop_end hlt]; rfl
      have H9 := Lib.hid (And.intro e1 (And.intro ho hB))
      clear hk0 ho hB hrun hbk e1
      go_wp2
      have ho2 := H9.out.2.1
      have hB2 := H9.out.2.2
      rw [H9.out.1]
      refine bodyPost_ret (v := .tuple #[.agg #[.int .i64 room, .int .i64 start, .slice A1 l.length c1, .int .i64 v, .int .i64 r, .int .i64 d, .int .i64 lo], .bool true]) ?_ rfl ?_
      · simp [results, Tryd.results85, go_sem, z0, z1, z2, z3, z4, z5, z6]
      · refine ⟨A1, c1, rfl, ?_, ?_⟩
        · refine (Row2.mono (lo := w.heap.size + 1) (lo' := w.heap.size) (hi := w1.heap.size) (hi' := w1.heap.size) ?_ (by omega) (Nat.le_refl _)).1
          repeat' (first | (with_reducible assumption) | (with_reducible refine Row2.far ?_ ?_ _) | (with_reducible refine Row2.alloc ?_ _) | (with_reducible refine Row2.drewN ?_ _) | (with_reducible refine Row2.drew ?_) | (left; dsimp only; omega) | (right; dsimp only; omega))
        · repeat' (first | (with_reducible exact Below.refl _ _) | (with_reducible assumption) | (with_reducible refine Below.alloc ?_ ?_ _) | (with_reducible refine Below.setCell ?_ ?_ _) | (with_reducible refine Below.drew ?_) | (with_reducible refine below_drewN ?_ _) | (refine Below.trans ?_ (Below.mono (by with_reducible assumption) ?_)) | omega | (simp; done) | (simp; omega))
end Go.Proofs.YtpmmjhpmheooeaaDoor

namespace Go.Proofs.YtpmmjhpmheooeaaDoor
set_option linter.unusedSimpArgs false
set_option linter.unusedVariables false
open Go.RowKit
set_option maxHeartbeats 3200000 in
theorem l37Count_any (A : Option Addr) (c : Nat) (room start lv0 r0 d0 l0 : Int) (l : List T3) (w : World) (h : RdT w w.heap.size A c l) (hs : l.length ≤ 1048576) :
    Calls Tryd.prog 107 #[.agg #[.int .i64 room, .int .i64 start, .slice A l.length c, .int .i64 lv0, .int .i64 r0, .int .i64 d0, .int .i64 l0]] w fun e w' => ∃ A' c', e = .returned (.tuple #[.agg #[.int .i64 room, .int .i64 start, .slice A' l.length c', .int .i64 (countBk room start l).1, .int .i64 (countBk room start l).2.1, .int .i64 (countBk room start l).2.2.1, .int .i64 (countBk room start l).2.2.2.1], .bool (countBk room start l).2.2.2.2]) ∧ w'.ownsRow w.heap.size 110 3 (.slice A' l.length c') l.length (t3s l) ∧ Below w.heap.size w w' := by
  obtain ⟨hl, hm⟩ := h.le
  obtain ⟨R, hR⟩ : ∃ R, R = countBk room start l := ⟨_, rfl⟩
  rw [← hR]
  have HR := Lib.hid hR; clear hR
  have hin : ∀ W : World, Below w.heap.size w W → RdT W W.heap.size A c l := fun W hb => h.below hb
  have HIN := Lib.hid hin; clear hin
  go_enter Tryd.func107, Tryd.ntmps107
  go_upto_region 1 with fail
  go_cut [4] (fun s4 wx => ∃ (G : Nat) (A1 : Option Addr) (c1 : Nat), s4 = .pointer (some ⟨G, 0, none⟩) ∧ w.heap.size + 2 ≤ G ∧
    Blk wx G 32 #[.int .i64 room, .int .i64 start, .slice A1 l.length c1, .int .i64 start, .int .i64 0, .int .i64 0, .int .i64 0] ∧
    Blk wx w.heap.size 32 #[.int .i64 room, .int .i64 start, .slice A l.length c, .int .i64 lv0, .int .i64 r0, .int .i64 d0, .int .i64 l0] ∧
    Blk wx (w.heap.size + 1) 32 #[.int .i64 0, .int .i64 0, .slice none 0 0, .int .i64 0, .int .i64 0, .int .i64 0, .int .i64 0] ∧
    wx.ownsRow w.heap.size 110 3 (.slice A1 l.length c1) l.length (t3s l) ∧ Below w.heap.size w wx)
  case first =>
    go_region_held3 (fun w' => w'.cell? ⟨w.heap.size, 0, none⟩ = some (.int .i64 room) ∧ w'.cell? ⟨w.heap.size, 1, none⟩ = some (.int .i64 start) ∧ w'.cell? ⟨w.heap.size, 2, none⟩ = some (.slice A l.length c)) (first | (simp [go_sem, World.cell?_alloc_past]; done) | (with_reducible exact ⟨s0, s1, s2⟩) | (have s4 : w1.heap.size ≠ w.heap.size := (by omega); have s5 : w.heap.size + 1 + 1 + 1 ≠ w.heap.size := (by omega); have s6 : w.heap.size + 1 + 1 ≠ w.heap.size := (by omega); simp only [World.cell?_alloc_past, World.cell?_alloc_some, World.cell?_setCell_far, Option.isSome_some, s0, s1, s2, s3, s4, s5, s6, ne_eq, not_false_eq_true, and_self]; done))
      (first | go_loud (refine step_appAll rfl _ _ 30 rfl w.heap.size 110 (.agg #[.int .i64 0, .int .i64 0, .int .i64 0]) 3 24 Tryd.underlying30 infoEv rfl (Nat.le_of_ble_eq_true rfl) (.slice (some ⟨w.heap.size + 1 + 1, 0, none⟩) 0 0) 0 [] rfl ?_ w.heap.size A l.length c (t3s l) rfl ?_ (t3s_one l) ?_ ?_ ?_ ?_; (first | exact (ownEmpty' _ _ _ _ _ (by simp) (by exact ooT)).drew | exact ((ownEmpty' _ _ _ _ _ (by simp) (by exact ooT)).alloc _).drew); (focus (refine Rd.keep h (fun p hp => Below.cell (B := w.heap.size) ?_ hp); repeat' (first | (with_reducible exact Below.refl _ _) | (with_reducible assumption) | (with_reducible refine Below.alloc ?_ ?_ _) | (with_reducible refine Below.setCell ?_ ?_ _) | (with_reducible refine Below.drew ?_) | (with_reducible refine below_drewN ?_ _) | (refine Below.trans ?_ (Below.mono (by with_reducible assumption) ?_)) | omega | (simp; done) | (simp; omega)))); omega; omega; (first | omega | (simp; done) | (simp; omega)); intro A1 c1 w1 ho1 hg1; obtain ⟨hc1, hf1⟩ := gcell hg1; have hz1 := hg1.size; have s0 : w1.cell? ⟨w.heap.size, 0, none⟩ = some (.int .i64 room) := (by rw [hc1 _ _ (by simp <;> omega) (by simp <;> omega)]; simp [go_sem]); have s1 : w1.cell? ⟨w.heap.size, 1, none⟩ = some (.int .i64 start) := (by rw [hc1 _ _ (by simp <;> omega) (by simp <;> omega)]; simp [go_sem]); have s2 : w1.cell? ⟨w.heap.size, 2, none⟩ = some (.slice A l.length c) := (by rw [hc1 _ _ (by simp <;> omega) (by simp <;> omega)]; simp [go_sem]); have s3 : w.heap.size < w1.heap.size := (by simp at hz1; omega)) | (refine step_appAll rfl _ _ 30 rfl w.heap.size 110 (.agg #[.int .i64 0, .int .i64 0, .int .i64 0]) 3 24 Tryd.underlying30 infoEv rfl (Nat.le_of_ble_eq_true rfl) (.slice (some ⟨w.heap.size + 2, 0, none⟩) 0 0) 0 [] rfl ?_ w.heap.size A l.length c (t3s l) rfl ?_ (t3s_one l) ?_ ?_ ?_ ?_; (first | exact (ownEmpty' _ _ _ _ _ (by simp) (by exact ooT)).drew | exact ((ownEmpty' _ _ _ _ _ (by simp) (by exact ooT)).alloc _).drew); (focus (refine Rd.keep h (fun p hp => Below.cell (B := w.heap.size) ?_ hp); repeat' (first | (with_reducible exact Below.refl _ _) | (with_reducible assumption) | (with_reducible refine Below.alloc ?_ ?_ _) | (with_reducible refine Below.setCell ?_ ?_ _) | (with_reducible refine Below.drew ?_) | (with_reducible refine below_drewN ?_ _) | (refine Below.trans ?_ (Below.mono (by with_reducible assumption) ?_)) | omega | (simp; done) | (simp; omega)))); omega; omega; (first | omega | (simp; done) | (simp; omega)); intro A1 c1 w1 ho1 hg1; obtain ⟨hc1, hf1⟩ := gcell hg1; have hz1 := hg1.size; have s0 : w1.cell? ⟨w.heap.size, 0, none⟩ = some (.int .i64 room) := (by rw [hc1 _ _ (by simp <;> omega) (by simp <;> omega)]; simp [go_sem]); have s1 : w1.cell? ⟨w.heap.size, 1, none⟩ = some (.int .i64 start) := (by rw [hc1 _ _ (by simp <;> omega) (by simp <;> omega)]; simp [go_sem]); have s2 : w1.cell? ⟨w.heap.size, 2, none⟩ = some (.slice A l.length c) := (by rw [hc1 _ _ (by simp <;> omega) (by simp <;> omega)]; simp [go_sem]); have s3 : w.heap.size < w1.heap.size := (by simp at hz1; omega)) | (refine step_appAll rfl _ _ 30 rfl w.heap.size 110 (.agg #[.int .i64 0, .int .i64 0, .int .i64 0]) 3 24 Tryd.underlying30 infoEv rfl (Nat.le_of_ble_eq_true rfl) (.slice (some ⟨w.heap.size + 1 + 1 + 1, 0, none⟩) 0 0) 0 [] rfl ?_ w.heap.size A l.length c (t3s l) rfl ?_ (t3s_one l) ?_ ?_ ?_ ?_; (first | exact (ownEmpty' _ _ _ _ _ (by simp) (by exact ooT)).drew | exact ((ownEmpty' _ _ _ _ _ (by simp) (by exact ooT)).alloc _).drew); (focus (refine Rd.keep h (fun p hp => Below.cell (B := w.heap.size) ?_ hp); repeat' (first | (with_reducible exact Below.refl _ _) | (with_reducible assumption) | (with_reducible refine Below.alloc ?_ ?_ _) | (with_reducible refine Below.setCell ?_ ?_ _) | (with_reducible refine Below.drew ?_) | (with_reducible refine below_drewN ?_ _) | (refine Below.trans ?_ (Below.mono (by with_reducible assumption) ?_)) | omega | (simp; done) | (simp; omega)))); omega; omega; (first | omega | (simp; done) | (simp; omega)); intro A1 c1 w1 ho1 hg1; obtain ⟨hc1, hf1⟩ := gcell hg1; have hz1 := hg1.size; have s0 : w1.cell? ⟨w.heap.size, 0, none⟩ = some (.int .i64 room) := (by rw [hc1 _ _ (by simp <;> omega) (by simp <;> omega)]; simp [go_sem]); have s1 : w1.cell? ⟨w.heap.size, 1, none⟩ = some (.int .i64 start) := (by rw [hc1 _ _ (by simp <;> omega) (by simp <;> omega)]; simp [go_sem]); have s2 : w1.cell? ⟨w.heap.size, 2, none⟩ = some (.slice A l.length c) := (by rw [hc1 _ _ (by simp <;> omega) (by simp <;> omega)]; simp [go_sem]); have s3 : w.heap.size < w1.heap.size := (by simp at hz1; omega)))
    all_goals
      have hbox : Blk w1 w.heap.size 32 #[.int .i64 room, .int .i64 start, .slice A l.length c, .int .i64 lv0, .int .i64 r0, .int .i64 d0, .int .i64 l0] := Blk.grown (by exact blkT) hg1 (by simp [Value.ownBlock] <;> omega)
      have hres : Blk w1 (w.heap.size + 1) 32 #[.int .i64 0, .int .i64 0, .slice none 0 0, .int .i64 0, .int .i64 0, .int .i64 0, .int .i64 0] := Blk.grown (by exact blkT) hg1 (by simp [Value.ownBlock] <;> omega)
      have hB1 : Below w.heap.size w w1 := Below.grown (by exact tacT) hg1 (by simp <;> omega) (by intro k hk; simp [Value.ownBlock] at hk; omega)
      have hz9 : w.heap.size + 3 ≤ w1.heap.size := by have := hg1.size; simp at this; omega
      simp only [List.nil_append, Nat.zero_add] at ho1
    · go_wp2_with fail
      go_meet
      refine ⟨w1.heap.size, A1, c1, rfl, by omega, ?_, ?_, ?_, (ho1.alloc _), ?_⟩
      · repeat' (first | (with_reducible assumption) | (with_reducible refine Blk.drew ?_) | (with_reducible refine Blk.drewN ?_ _) | (with_reducible refine Blk.new' _ _ _ _ ?_; exact rT) | (with_reducible exact Blk.new _ _ _) | (with_reducible refine Blk.alloc ?_ _) | (with_reducible apply Blk.set8) | (with_reducible apply Blk.set7of8) | (with_reducible apply Blk.setlast8) | (with_reducible apply Blk.set7) | (with_reducible apply Blk.set2) | (with_reducible apply Blk.set3) | (with_reducible refine Blk.far ?_ ?_ _) | (simp; done) | (simp; omega) | (dsimp only; omega))
      · repeat' (first | (with_reducible assumption) | (with_reducible refine Blk.drew ?_) | (with_reducible refine Blk.drewN ?_ _) | (with_reducible refine Blk.new' _ _ _ _ ?_; exact rT) | (with_reducible exact Blk.new _ _ _) | (with_reducible refine Blk.alloc ?_ _) | (with_reducible apply Blk.set8) | (with_reducible apply Blk.set7of8) | (with_reducible apply Blk.setlast8) | (with_reducible apply Blk.set7) | (with_reducible apply Blk.set2) | (with_reducible apply Blk.set3) | (with_reducible refine Blk.far ?_ ?_ _) | (simp; done) | (simp; omega) | (dsimp only; omega))
      · repeat' (first | (with_reducible assumption) | (with_reducible refine Blk.drew ?_) | (with_reducible refine Blk.drewN ?_ _) | (with_reducible refine Blk.new' _ _ _ _ ?_; exact rT) | (with_reducible exact Blk.new _ _ _) | (with_reducible refine Blk.alloc ?_ _) | (with_reducible apply Blk.set8) | (with_reducible apply Blk.set7of8) | (with_reducible apply Blk.setlast8) | (with_reducible apply Blk.set7) | (with_reducible apply Blk.set2) | (with_reducible apply Blk.set3) | (with_reducible refine Blk.far ?_ ?_ _) | (simp; done) | (simp; omega) | (dsimp only; omega))
      · repeat' (first | (with_reducible exact Below.refl _ _) | (with_reducible assumption) | (with_reducible refine Below.alloc ?_ ?_ _) | (with_reducible refine Below.setCell ?_ ?_ _) | (with_reducible refine Below.drew ?_) | (with_reducible refine below_drewN ?_ _) | (refine Below.trans ?_ (Below.mono (by with_reducible assumption) ?_)) | omega | (simp; done) | (simp; omega))
    · have hG : Blk w1 (w.heap.size + 3) 32 #[.int .i64 0, .int .i64 0, .slice none 0 0, .int .i64 0, .int .i64 0, .int .i64 0, .int .i64 0] := Blk.grown (by exact blkT) hg1 (by simp [Value.ownBlock] <;> omega)
      go_wp2_with fail
      go_meet
      refine ⟨w.heap.size + 3, A1, c1, rfl, by omega, ?_, ?_, ?_, ?_, ?_⟩
      · with_reducible exact blk_set7 hG _ _ _ _ _ _ _
      · repeat' (first | (with_reducible assumption) | (with_reducible refine Blk.drew ?_) | (with_reducible refine Blk.drewN ?_ _) | (with_reducible refine Blk.new' _ _ _ _ ?_; exact rT) | (with_reducible exact Blk.new _ _ _) | (with_reducible refine Blk.alloc ?_ _) | (with_reducible apply Blk.set8) | (with_reducible apply Blk.set7of8) | (with_reducible apply Blk.setlast8) | (with_reducible apply Blk.set7) | (with_reducible apply Blk.set2) | (with_reducible apply Blk.set3) | (with_reducible refine Blk.far ?_ ?_ _) | (simp; done) | (simp; omega) | (dsimp only; omega))
      · repeat' (first | (with_reducible assumption) | (with_reducible refine Blk.drew ?_) | (with_reducible refine Blk.drewN ?_ _) | (with_reducible refine Blk.new' _ _ _ _ ?_; exact rT) | (with_reducible exact Blk.new _ _ _) | (with_reducible refine Blk.alloc ?_ _) | (with_reducible apply Blk.set8) | (with_reducible apply Blk.set7of8) | (with_reducible apply Blk.setlast8) | (with_reducible apply Blk.set7) | (with_reducible apply Blk.set2) | (with_reducible apply Blk.set3) | (with_reducible refine Blk.far ?_ ?_ _) | (simp; done) | (simp; omega) | (dsimp only; omega))
      · with_reducible exact own_set7 ho1 hG (by decide) _ _ _ _ _ _ _
      · repeat' (first | (with_reducible exact Below.refl _ _) | (with_reducible assumption) | (with_reducible refine Below.alloc ?_ ?_ _) | (with_reducible refine Below.setCell ?_ ?_ _) | (with_reducible refine Below.drew ?_) | (with_reducible refine below_drewN ?_ _) | (refine Below.trans ?_ (Below.mono (by with_reducible assumption) ?_)) | omega | (simp; done) | (simp; omega))
    · have hG : Blk w1 (w.heap.size + 2) 32 #[.int .i64 0, .int .i64 0, .slice none 0 0, .int .i64 0, .int .i64 0, .int .i64 0, .int .i64 0] := Blk.grown (by exact blkT) hg1 (by simp [Value.ownBlock] <;> omega)
      go_wp2_with fail
      go_meet
      refine ⟨w.heap.size + 2, A1, c1, rfl, by omega, ?_, ?_, ?_, ?_, ?_⟩
      · with_reducible exact blk_set7 hG _ _ _ _ _ _ _
      · repeat' (first | (with_reducible assumption) | (with_reducible refine Blk.drew ?_) | (with_reducible refine Blk.drewN ?_ _) | (with_reducible refine Blk.new' _ _ _ _ ?_; exact rT) | (with_reducible exact Blk.new _ _ _) | (with_reducible refine Blk.alloc ?_ _) | (with_reducible apply Blk.set8) | (with_reducible apply Blk.set7of8) | (with_reducible apply Blk.setlast8) | (with_reducible apply Blk.set7) | (with_reducible apply Blk.set2) | (with_reducible apply Blk.set3) | (with_reducible refine Blk.far ?_ ?_ _) | (simp; done) | (simp; omega) | (dsimp only; omega))
      · repeat' (first | (with_reducible assumption) | (with_reducible refine Blk.drew ?_) | (with_reducible refine Blk.drewN ?_ _) | (with_reducible refine Blk.new' _ _ _ _ ?_; exact rT) | (with_reducible exact Blk.new _ _ _) | (with_reducible refine Blk.alloc ?_ _) | (with_reducible apply Blk.set8) | (with_reducible apply Blk.set7of8) | (with_reducible apply Blk.setlast8) | (with_reducible apply Blk.set7) | (with_reducible apply Blk.set2) | (with_reducible apply Blk.set3) | (with_reducible refine Blk.far ?_ ?_ _) | (simp; done) | (simp; omega) | (dsimp only; omega))
      · with_reducible exact own_set7 ho1 hG (by decide) _ _ _ _ _ _ _
      · repeat' (first | (with_reducible exact Below.refl _ _) | (with_reducible assumption) | (with_reducible refine Below.alloc ?_ ?_ _) | (with_reducible refine Below.setCell ?_ ?_ _) | (with_reducible refine Below.drew ?_) | (with_reducible refine below_drewN ?_ _) | (refine Below.trans ?_ (Below.mono (by with_reducible assumption) ?_)) | omega | (simp; done) | (simp; omega))
  case rest =>
    obtain ⟨G, A1, c1, rfl, hG2, hkG, hkB, hkR, ho, hB⟩ := hcut
    have hGlt := hkG.lt
    have g0 : wc.cell? ⟨G, 0, none⟩ = some (.int .i64 room) := hkG.cell 0
    have g1 : wc.cell? ⟨G, 1, none⟩ = some (.int .i64 start) := hkG.cell 1
    have g2 : wc.cell? ⟨G, 2, none⟩ = some (.slice A1 l.length c1) := hkG.cell 2
    have g3 : wc.cell? ⟨G, 3, none⟩ = some (.int .i64 start) := hkG.cell 3
    have g4 : wc.cell? ⟨G, 4, none⟩ = some (.int .i64 0) := hkG.cell 4
    have g5 : wc.cell? ⟨G, 5, none⟩ = some (.int .i64 0) := hkG.cell 5
    have g6 : wc.cell? ⟨G, 6, none⟩ = some (.int .i64 0) := hkG.cell 6
    have b0 : wc.cell? ⟨w.heap.size, 0, none⟩ = some (.int .i64 room) := hkB.cell 0
    have b1 : wc.cell? ⟨w.heap.size, 1, none⟩ = some (.int .i64 start) := hkB.cell 1
    have b2 : wc.cell? ⟨w.heap.size, 2, none⟩ = some (.slice A l.length c) := hkB.cell 2
    have b3 : wc.cell? ⟨w.heap.size, 3, none⟩ = some (.int .i64 lv0) := hkB.cell 3
    have b4 : wc.cell? ⟨w.heap.size, 4, none⟩ = some (.int .i64 r0) := hkB.cell 4
    have b5 : wc.cell? ⟨w.heap.size, 5, none⟩ = some (.int .i64 d0) := hkB.cell 5
    have b6 : wc.cell? ⟨w.heap.size, 6, none⟩ = some (.int .i64 l0) := hkB.cell 6
    have z0 : wc.cell? ⟨w.heap.size + 1, 0, none⟩ = some (.int .i64 0) := hkR.cell 0
    have zf0 : wc.frozen? ⟨w.heap.size + 1, 0, none⟩ = false := hkR.frozen 0
    have z1 : wc.cell? ⟨w.heap.size + 1, 1, none⟩ = some (.int .i64 0) := hkR.cell 1
    have zf1 : wc.frozen? ⟨w.heap.size + 1, 1, none⟩ = false := hkR.frozen 1
    have z2 : wc.cell? ⟨w.heap.size + 1, 2, none⟩ = some (.slice none 0 0) := hkR.cell 2
    have zf2 : wc.frozen? ⟨w.heap.size + 1, 2, none⟩ = false := hkR.frozen 2
    have z3 : wc.cell? ⟨w.heap.size + 1, 3, none⟩ = some (.int .i64 0) := hkR.cell 3
    have zf3 : wc.frozen? ⟨w.heap.size + 1, 3, none⟩ = false := hkR.frozen 3
    have z4 : wc.cell? ⟨w.heap.size + 1, 4, none⟩ = some (.int .i64 0) := hkR.cell 4
    have zf4 : wc.frozen? ⟨w.heap.size + 1, 4, none⟩ = false := hkR.frozen 4
    have z5 : wc.cell? ⟨w.heap.size + 1, 5, none⟩ = some (.int .i64 0) := hkR.cell 5
    have zf5 : wc.frozen? ⟨w.heap.size + 1, 5, none⟩ = false := hkR.frozen 5
    have z6 : wc.cell? ⟨w.heap.size + 1, 6, none⟩ = some (.int .i64 0) := hkR.cell 6
    have zf6 : wc.frozen? ⟨w.heap.size + 1, 6, none⟩ = false := hkR.frozen 6
    have HC := Lib.hid (And.intro hkG (And.intro hkB (And.intro hkR (And.intro ho hB))))
    clear hkG hkB hkR ho hB
    cases h1 : inB room 1 1000000
    · have e1 : countBk room start l = (start, 0, 0, 0, false) := by unfold countBk; rw [h1]; rfl
      have E1 := Lib.hid e1; clear e1
      go_wp2_with (first | (go_at_call 25; refine (l01In_any _ _ _ _).mono ?_; rintro e w' ⟨rfl, rfl⟩))
      rw [HR.out, E1.out]
      have ho := HC.out.2.2.2.1
      have hB := HC.out.2.2.2.2
      refine bodyPost_ret (v := .tuple #[.agg #[.int .i64 room, .int .i64 start, .slice A1 l.length c1, .int .i64 start, .int .i64 0, .int .i64 0, .int .i64 0], .bool false]) ?_ rfl ?_
      · simp [results, Tryd.results107, go_sem, z0, z1, z2, z3, z4, z5, z6]
      · refine ⟨A1, c1, rfl, ?_, ?_⟩
        · with_reducible exact own_set7 ho HC.out.2.2.1 (by decide) _ _ _ _ _ _ _
        · repeat' (first | (with_reducible exact Below.refl _ _) | (with_reducible assumption) | (with_reducible refine Below.alloc ?_ ?_ _) | (with_reducible refine Below.setCell ?_ ?_ _) | (with_reducible refine Below.drew ?_) | (with_reducible refine below_drewN ?_ _) | (refine Below.trans ?_ (Below.mono (by with_reducible assumption) ?_)) | omega | (simp; done) | (simp; omega))
    cases h2 : inB start 0 room
    · have e1 : countBk room start l = (start, 0, 0, 0, false) := by unfold countBk; rw [h1, h2]; rfl
      have E1 := Lib.hid e1; clear e1
      go_wp2_with (first | (go_at_call 25; refine (l01In_any _ _ _ _).mono ?_; rintro e w' ⟨rfl, rfl⟩))
      rw [HR.out, E1.out]
      have ho := HC.out.2.2.2.1
      have hB := HC.out.2.2.2.2
      refine bodyPost_ret (v := .tuple #[.agg #[.int .i64 room, .int .i64 start, .slice A1 l.length c1, .int .i64 start, .int .i64 0, .int .i64 0, .int .i64 0], .bool false]) ?_ rfl ?_
      · simp [results, Tryd.results107, go_sem, z0, z1, z2, z3, z4, z5, z6]
      · refine ⟨A1, c1, rfl, ?_, ?_⟩
        · with_reducible exact own_set7 ho HC.out.2.2.1 (by decide) _ _ _ _ _ _ _
        · repeat' (first | (with_reducible exact Below.refl _ _) | (with_reducible assumption) | (with_reducible refine Below.alloc ?_ ?_ _) | (with_reducible refine Below.setCell ?_ ?_ _) | (with_reducible refine Below.drew ?_) | (with_reducible refine below_drewN ?_ _) | (refine Below.trans ?_ (Below.mono (by with_reducible assumption) ?_)) | omega | (simp; done) | (simp; omega))
    by_cases h40 : (40 : Int) < l.length
    · have e1 : countBk room start l = (start, 0, 0, 0, false) := by unfold countBk; rw [h1, h2]; simp; intro; omega
      have E1 := Lib.hid e1; clear e1
      go_wp2_with (first | (go_at_call 25; refine (l01In_any _ _ _ _).mono ?_; rintro e w' ⟨rfl, rfl⟩))
      rw [HR.out, E1.out]
      have ho := HC.out.2.2.2.1
      have hB := HC.out.2.2.2.2
      refine bodyPost_ret (v := .tuple #[.agg #[.int .i64 room, .int .i64 start, .slice A1 l.length c1, .int .i64 start, .int .i64 0, .int .i64 0, .int .i64 0], .bool false]) ?_ rfl ?_
      · simp [results, Tryd.results107, go_sem, z0, z1, z2, z3, z4, z5, z6]
      · refine ⟨A1, c1, rfl, ?_, ?_⟩
        · with_reducible exact own_set7 ho HC.out.2.2.1 (by decide) _ _ _ _ _ _ _
        · repeat' (first | (with_reducible exact Below.refl _ _) | (with_reducible assumption) | (with_reducible refine Below.alloc ?_ ?_ _) | (with_reducible refine Below.setCell ?_ ?_ _) | (with_reducible refine Below.drew ?_) | (with_reducible refine below_drewN ?_ _) | (refine Below.trans ?_ (Below.mono (by with_reducible assumption) ?_)) | omega | (simp; done) | (simp; omega))
    have e1 : countBk room start l = runEv room l start 0 0 0 := by unfold countBk; rw [h1, h2]; simp; omega
    have E1 := Lib.hid e1; clear e1
    go_wp2_with (first | (go_at_call 25; refine (l01In_any _ _ _ _).mono ?_; rintro e w' ⟨rfl, rfl⟩))
    go_loopw [5] (fun i wr => ∃ (k : Nat) (v r d lo : Int), k ≤ l.length ∧ i = .int .i64 k ∧ Blk wr G 32 #[.int .i64 room, .int .i64 start, .slice A1 l.length c1, .int .i64 v, .int .i64 r, .int .i64 d, .int .i64 lo] ∧ Blk wr w.heap.size 32 #[.int .i64 room, .int .i64 start, .slice A l.length c, .int .i64 lv0, .int .i64 r0, .int .i64 d0, .int .i64 l0] ∧ Blk wr (w.heap.size + 1) 32 #[.int .i64 0, .int .i64 0, .slice none 0 0, .int .i64 0, .int .i64 0, .int .i64 0, .int .i64 0] ∧ wr.ownsRow w.heap.size 110 3 (.slice A1 l.length c1) l.length (t3s l) ∧ Below w.heap.size w wr ∧ runEv room (l.drop k) v r d lo = R ∧ 0 ≤ r ∧ r ≤ 1000000 * k ∧ 0 ≤ d ∧ d ≤ 1000000 * k ∧ 0 ≤ lo ∧ lo ≤ 1000000 * k) (fun i _ => l.length - (intOf i).toNat)
    case atStart => exact ⟨0, start, 0, 0, 0, Nat.zero_le _, rfl, HC.out.1, HC.out.2.1, HC.out.2.2.1, HC.out.2.2.2.1, HC.out.2.2.2.2, (HR.out.trans E1.out).symm, by omega, by omega, by omega, by omega, by omega, by omega⟩
    case round =>
      obtain ⟨k, v, r, d, lo, hk, rfl, hkG, hkB, hkR, ho, hB, hrun, q0, q1, q2, q3, q4, q5⟩ := hrel
      clear g0 g1 g2 g3 g4 g5 g6 b0 b1 b2 b3 b4 b5 b6 z0 z1 z2 z3 z4 z5 z6 zf0 zf1 zf2 zf3 zf4 zf5 zf6 hGlt
      have hGlt := hkG.lt
      have g0 : wr.cell? ⟨G, 0, none⟩ = some (.int .i64 room) := hkG.cell 0
      have g1 : wr.cell? ⟨G, 1, none⟩ = some (.int .i64 start) := hkG.cell 1
      have g2 : wr.cell? ⟨G, 2, none⟩ = some (.slice A1 l.length c1) := hkG.cell 2
      have g3 : wr.cell? ⟨G, 3, none⟩ = some (.int .i64 v) := hkG.cell 3
      have g4 : wr.cell? ⟨G, 4, none⟩ = some (.int .i64 r) := hkG.cell 4
      have g5 : wr.cell? ⟨G, 5, none⟩ = some (.int .i64 d) := hkG.cell 5
      have g6 : wr.cell? ⟨G, 6, none⟩ = some (.int .i64 lo) := hkG.cell 6
      have b0 : wr.cell? ⟨w.heap.size, 0, none⟩ = some (.int .i64 room) := hkB.cell 0
      have b2 : wr.cell? ⟨w.heap.size, 2, none⟩ = some (.slice A l.length c) := hkB.cell 2
      by_cases hlt : k < l.length
      · obtain ⟨b, o, t, rfl, hbb, hx, e0, e1, e2⟩ := h.at_ hlt
        have f0 : wr.cell? ⟨b, o + k * 3, none⟩ = some (.int .i64 t.x) := (hB.cell (p := ⟨b, _, none⟩) hbb).trans e0
        have f1 : wr.cell? ⟨b, o + k * 3 + 1, none⟩ = some (.int .i64 t.y) := (hB.cell (p := ⟨b, _, none⟩) hbb).trans e1
        have f2 : wr.cell? ⟨b, o + k * 3 + 2, none⟩ = some (.int .i64 t.z) := (hB.cell (p := ⟨b, _, none⟩) hbb).trans e2
        clear e0 e1 e2
        have hk0 : (0 : Int) ≤ (k : Int) := by omega
        have hk1 : (k : Int) < (l.length : Int) := by omega
        have HX := Lib.hid (And.intro hx (And.intro hkG (And.intro hkB (And.intro hkR (And.intro ho (And.intro hB hrun))))))
        clear hx hkG hkB hkR ho hB hrun
        obtain ⟨v', r', d', l', ok, he⟩ : ∃ v' r' d' l' ok, evOn v room t.x t.y t.z = (v', r', d', l', ok) := ⟨_, _, _, _, _, rfl⟩
        have hcall : ∀ W : World, Calls Tryd.prog 116 #[.int .i64 v, .int .i64 room, .agg #[.int .i64 t.x, .int .i64 t.y, .int .i64 t.z]] W fun e w' => e = .returned (.tuple #[.int .i64 v', .int .i64 r', .int .i64 d', .int .i64 l', .bool ok]) ∧ Below W.heap.size W w' := by
          intro W
          have := EventOnS_any v room t.x t.y t.z W
          rw [he] at this
          exact this
        have HCALL := Lib.hid hcall; clear hcall
        have hbd := evOn_bounds v room t.x t.y t.z
        rw [he] at hbd
        have HE := Lib.hid he; clear he
        have hbwr : b < wr.heap.size := by omega
        go_wp2
        go_region_held3 (fun w' => w'.cell? ⟨G, 3, none⟩ = some (.int .i64 v) ∧ w'.cell? ⟨w.heap.size, 0, none⟩ = some (.int .i64 room) ∧ w'.cell? ⟨w.heap.size, 2, none⟩ = some (.slice (some ⟨b, o, none⟩) l.length c) ∧ w'.cell? ⟨b, o + k * 3, none⟩ = some (.int .i64 t.x) ∧ w'.cell? ⟨b, o + k * 3 + 1, none⟩ = some (.int .i64 t.y) ∧ w'.cell? ⟨b, o + k * 3 + 2, none⟩ = some (.int .i64 t.z)) (first | (simp [*]; done) | exact ⟨y0, y1, y2, y3, y4, y5⟩)
          ((go_at_call 116; refine (HCALL.out _).mono ?_; rintro e w2 ⟨rfl, hb2⟩; obtain ⟨hc2, hf2⟩ := bcell hb2; have hz2 : wr.heap.size ≤ w2.heap.size := hb2.size; have y0 := (hc2 G 3 hGlt).trans g3; have y1 := (hc2 w.heap.size 0 (by show _ < wr.heap.size; omega)).trans b0; have y2 := (hc2 w.heap.size 2 (by show _ < wr.heap.size; omega)).trans b2; have y3 := (hc2 b _ hbwr).trans f0; have y4 := (hc2 b _ hbwr).trans f1; have y5 := (hc2 b _ hbwr).trans f2))
        clear g0 g1 g2 g3 g4 g5 g6 b0 b2 f0 f1 f2 y0 y1 y2 y3 y4 y5 hc2 hf2
        have hkG2 := HX.out.2.1.drew.below hb2 hGlt
        have hkB2 := HX.out.2.2.1.drew.below hb2 (HX.out.2.2.1.lt)
        have hkR2 := HX.out.2.2.2.1.drew.below hb2 (HX.out.2.2.2.1.lt)
        have ho2 := own_below HX.out.2.2.2.2.1.drew hb2 (Nat.le_refl _)
        have hB2 := HX.out.2.2.2.2.2.1.drew.trans (hb2.mono HX.out.2.2.2.2.2.1.size)
        have hGlt2 : G < w2.heap.size := hkG2.lt
        have hrun := HX.out.2.2.2.2.2.2
        rw [drop_cons HX.out.1, runEv_cons, HE.out] at hrun
        have g0 : w2.cell? ⟨G, 0, none⟩ = some (.int .i64 room) := hkG2.cell 0
        have gf0 : w2.frozen? ⟨G, 0, none⟩ = false := hkG2.frozen 0
        have g1 : w2.cell? ⟨G, 1, none⟩ = some (.int .i64 start) := hkG2.cell 1
        have gf1 : w2.frozen? ⟨G, 1, none⟩ = false := hkG2.frozen 1
        have g2 : w2.cell? ⟨G, 2, none⟩ = some (.slice A1 l.length c1) := hkG2.cell 2
        have gf2 : w2.frozen? ⟨G, 2, none⟩ = false := hkG2.frozen 2
        have g3 : w2.cell? ⟨G, 3, none⟩ = some (.int .i64 v) := hkG2.cell 3
        have gf3 : w2.frozen? ⟨G, 3, none⟩ = false := hkG2.frozen 3
        have g4 : w2.cell? ⟨G, 4, none⟩ = some (.int .i64 r) := hkG2.cell 4
        have gf4 : w2.frozen? ⟨G, 4, none⟩ = false := hkG2.frozen 4
        have g5 : w2.cell? ⟨G, 5, none⟩ = some (.int .i64 d) := hkG2.cell 5
        have gf5 : w2.frozen? ⟨G, 5, none⟩ = false := hkG2.frozen 5
        have g6 : w2.cell? ⟨G, 6, none⟩ = some (.int .i64 lo) := hkG2.cell 6
        have gf6 : w2.frozen? ⟨G, 6, none⟩ = false := hkG2.frozen 6
        have HR2 := Lib.hid (And.intro hkG2 (And.intro hkB2 (And.intro ho2 (And.intro hB2 hrun))))
        clear hb2 hkG2 hkB2 ho2 hB2 hrun
        cases ok
        · have e1 : R = (v, r, d, lo, false) := HR2.out.2.2.2.2.symm
          have E2 := Lib.hid e1; clear e1
          have z0 : w2.cell? ⟨w.heap.size + 1, 0, none⟩ = some (.int .i64 0) := hkR2.cell 0
          have zf0 : w2.frozen? ⟨w.heap.size + 1, 0, none⟩ = false := hkR2.frozen 0
          have z1 : w2.cell? ⟨w.heap.size + 1, 1, none⟩ = some (.int .i64 0) := hkR2.cell 1
          have zf1 : w2.frozen? ⟨w.heap.size + 1, 1, none⟩ = false := hkR2.frozen 1
          have z2 : w2.cell? ⟨w.heap.size + 1, 2, none⟩ = some (.slice none 0 0) := hkR2.cell 2
          have zf2 : w2.frozen? ⟨w.heap.size + 1, 2, none⟩ = false := hkR2.frozen 2
          have z3 : w2.cell? ⟨w.heap.size + 1, 3, none⟩ = some (.int .i64 0) := hkR2.cell 3
          have zf3 : w2.frozen? ⟨w.heap.size + 1, 3, none⟩ = false := hkR2.frozen 3
          have z4 : w2.cell? ⟨w.heap.size + 1, 4, none⟩ = some (.int .i64 0) := hkR2.cell 4
          have zf4 : w2.frozen? ⟨w.heap.size + 1, 4, none⟩ = false := hkR2.frozen 4
          have z5 : w2.cell? ⟨w.heap.size + 1, 5, none⟩ = some (.int .i64 0) := hkR2.cell 5
          have zf5 : w2.frozen? ⟨w.heap.size + 1, 5, none⟩ = false := hkR2.frozen 5
          have z6 : w2.cell? ⟨w.heap.size + 1, 6, none⟩ = some (.int .i64 0) := hkR2.cell 6
          have zf6 : w2.frozen? ⟨w.heap.size + 1, 6, none⟩ = false := hkR2.frozen 6
          have HK := Lib.hid hkR2; clear hkR2
          go_wp2
          rw [E2.out]
          have hkRF := HK.out
          have hoF := HR2.out.2.2.1
          have hB := HR2.out.2.2.2.1
          refine bodyPost_ret (v := .tuple #[.agg #[.int .i64 room, .int .i64 start, .slice A1 l.length c1, .int .i64 v, .int .i64 r, .int .i64 d, .int .i64 lo], .bool false]) ?_ rfl ?_
          · simp [results, Tryd.results107, go_sem, z0, z1, z2, z3, z4, z5, z6]
          · refine ⟨A1, c1, rfl, ?_, ?_⟩
            · with_reducible exact own_set7 hoF hkRF (by decide) _ _ _ _ _ _ _
            · repeat' (first | (with_reducible exact Below.refl _ _) | (with_reducible assumption) | (with_reducible refine Below.alloc ?_ ?_ _) | (with_reducible refine Below.setCell ?_ ?_ _) | (with_reducible refine Below.drew ?_) | (with_reducible refine below_drewN ?_ _) | (refine Below.trans ?_ (Below.mono (by with_reducible assumption) ?_)) | omega | (simp; done) | (simp; omega))
        · have HK := Lib.hid hkR2; clear hkR2
          have hbd' := hbd rfl
          try simp only at hbd'
          obtain ⟨b1, b2, b3, b4, b5, b6⟩ := hbd'
          clear hbd
          go_wp2
          go_roundw
          case rel =>
            have hB := HR2.out.2.2.2.1
            have k0 := HR2.out.1.set_ 3 (.int .i64 v')
            have k1 := k0.set_ 4 (.int .i64 (r + r'))
            have k2 := k1.set_ 5 (.int .i64 (d + d'))
            refine ⟨k + 1, v', r + r', d + d', lo + l', by omega, by go_num, ?_, ?_, ?_, ?_, ?_, HR2.out.2.2.2.2, by omega, by omega, by omega, by omega, by omega, by omega⟩
            · exact k2.set_ 6 (.int .i64 (lo + l'))
            · exact (((HR2.out.2.1.far (p := ⟨G, 3, none⟩) (by simp; omega) _).far (p := ⟨G, 4, none⟩) (by simp; omega) _).far (p := ⟨G, 5, none⟩) (by simp; omega) _).far (p := ⟨G, 6, none⟩) (by simp; omega) _
            · exact (((HK.out.far (p := ⟨G, 3, none⟩) (by simp; omega) _).far (p := ⟨G, 4, none⟩) (by simp; omega) _).far (p := ⟨G, 5, none⟩) (by simp; omega) _).far (p := ⟨G, 6, none⟩) (by simp; omega) _
            · have o0 := own_set_blk HR2.out.2.2.1 HR2.out.1 (by decide) 3 (.int .i64 v')
              have o1 := own_set_blk o0 k0 (by decide) 4 (.int .i64 (r + r'))
              have o2 := own_set_blk o1 k1 (by decide) 5 (.int .i64 (d + d'))
              exact own_set_blk o2 k2 (by decide) 6 (.int .i64 (lo + l'))
            · repeat' (first | (with_reducible exact Below.refl _ _) | (with_reducible assumption) | (with_reducible refine Below.alloc ?_ ?_ _) | (with_reducible refine Below.setCell ?_ ?_ _) | (with_reducible refine Below.drew ?_) | (with_reducible refine below_drewN ?_ _) | (refine Below.trans ?_ (Below.mono (by with_reducible assumption) ?_)) | omega | (simp; done) | (simp; omega))
          case measure => simp [intOf]; omega
      · have e1 : R = (v, r, d, lo, true) := by rw [← hrun, drop_end hlt]; rfl
        have E2 := Lib.hid e1; clear e1 hrun
        have z0 : wr.cell? ⟨w.heap.size + 1, 0, none⟩ = some (.int .i64 0) := hkR.cell 0
        have zf0 : wr.frozen? ⟨w.heap.size + 1, 0, none⟩ = false := hkR.frozen 0
        have z1 : wr.cell? ⟨w.heap.size + 1, 1, none⟩ = some (.int .i64 0) := hkR.cell 1
        have zf1 : wr.frozen? ⟨w.heap.size + 1, 1, none⟩ = false := hkR.frozen 1
        have z2 : wr.cell? ⟨w.heap.size + 1, 2, none⟩ = some (.slice none 0 0) := hkR.cell 2
        have zf2 : wr.frozen? ⟨w.heap.size + 1, 2, none⟩ = false := hkR.frozen 2
        have z3 : wr.cell? ⟨w.heap.size + 1, 3, none⟩ = some (.int .i64 0) := hkR.cell 3
        have zf3 : wr.frozen? ⟨w.heap.size + 1, 3, none⟩ = false := hkR.frozen 3
        have z4 : wr.cell? ⟨w.heap.size + 1, 4, none⟩ = some (.int .i64 0) := hkR.cell 4
        have zf4 : wr.frozen? ⟨w.heap.size + 1, 4, none⟩ = false := hkR.frozen 4
        have z5 : wr.cell? ⟨w.heap.size + 1, 5, none⟩ = some (.int .i64 0) := hkR.cell 5
        have zf5 : wr.frozen? ⟨w.heap.size + 1, 5, none⟩ = false := hkR.frozen 5
        have z6 : wr.cell? ⟨w.heap.size + 1, 6, none⟩ = some (.int .i64 0) := hkR.cell 6
        have zf6 : wr.frozen? ⟨w.heap.size + 1, 6, none⟩ = false := hkR.frozen 6
        have HK := Lib.hid (And.intro hkR (And.intro ho hB)); clear hkR ho hB hkG hkB
        go_wp2
        rw [E2.out]
        have hkRF := HK.out.1
        have hoF := HK.out.2.1
        have hB := HK.out.2.2
        refine bodyPost_ret (v := .tuple #[.agg #[.int .i64 room, .int .i64 start, .slice A1 l.length c1, .int .i64 v, .int .i64 r, .int .i64 d, .int .i64 lo], .bool true]) ?_ rfl ?_
        · simp [results, Tryd.results107, go_sem, z0, z1, z2, z3, z4, z5, z6]
        · refine ⟨A1, c1, rfl, ?_, ?_⟩
          · with_reducible exact own_set7 hoF hkRF (by decide) _ _ _ _ _ _ _
          · repeat' (first | (with_reducible exact Below.refl _ _) | (with_reducible assumption) | (with_reducible refine Below.alloc ?_ ?_ _) | (with_reducible refine Below.setCell ?_ ?_ _) | (with_reducible refine Below.drew ?_) | (with_reducible refine below_drewN ?_ _) | (refine Below.trans ?_ (Below.mono (by with_reducible assumption) ?_)) | omega | (simp; done) | (simp; omega))
end Go.Proofs.YtpmmjhpmheooeaaDoor

namespace Go.Proofs.YtpmmjhpmheooeaaDoor
set_option linter.unusedSimpArgs false
set_option linter.unusedVariables false
open Go.RowKit
def bookOk (b : Bk) : Bool := (countBk b.room b.start b.evs).2.2.2.2 && ((countBk b.room b.start b.evs).1 == b.level) && ((countBk b.room b.start b.evs).2.1 == b.rained) && ((countBk b.room b.start b.evs).2.2.1 == b.drunk) && ((countBk b.room b.start b.evs).2.2.2.1 == b.lost)
theorem bookOk_eq {b : Bk} {v r d l : Int} {ok : Bool} (h : countBk b.room b.start b.evs = (v, r, d, l, ok)) : bookOk b = (ok && (v == b.level) && (r == b.rained) && (d == b.drunk) && (l == b.lost)) := by
  unfold bookOk; rw [h]
theorem countBk_no {room start : Int} {l : List T3} (h : inB room 1 1000000 = false ∨ inB start 0 room = false ∨ ¬ l.length ≤ 40) : countBk room start l = (start, 0, 0, 0, false) := by
  unfold countBk
  rcases h with h | h | h
  · rw [h]; rfl
  · rw [h]; simp
  · simp [h]
theorem countBk_yes {room start : Int} {l : List T3} (h1 : inB room 1 1000000 = true) (h2 : inB start 0 room = true) (h3 : l.length ≤ 40) : countBk room start l = runEv room l start 0 0 0 := by
  unfold countBk; rw [h1, h2]; simp [h3]
set_option maxHeartbeats 1600000 in
theorem BookOkS_any (A : Option Addr) (c : Nat) (b : Bk) (w : World) (h : RdT w w.heap.size A c b.evs) (hs : b.evs.length ≤ 1048576) :
    Calls Tryd.prog 105 #[b.val A c] w fun e w' => e = .returned (.bool (bookOk b)) ∧ Below w.heap.size w w' := by
  obtain ⟨room, start, l, lv, ra, dr, lo⟩ := b
  unfold Bk.val
  simp only at h hs ⊢
  obtain ⟨v, r, d, lt, ok, he⟩ : ∃ v r d lt ok, countBk room start l = (v, r, d, lt, ok) := ⟨_, _, _, _, _, rfl⟩
  have hbe := bookOk_eq (b := ⟨room, start, l, lv, ra, dr, lo⟩) he
  simp only at hbe
  have hcall := fun (W : World) (hb : Below w.heap.size w W) => l37Count_any A c room start lv ra dr lo l W (h.below hb) hs
  rw [he] at hcall
  have HCALL := Lib.hid hcall
  have HBE := Lib.hid hbe
  clear hcall he hbe
  cases ok
  · skip
    go_enter Tryd.func105, Tryd.ntmps105
    go_wp2_with (go_at_call 107; refine (HCALL.out _ (by exact tacT)).mono ?_; rintro e w1 ⟨A1, c1, rfl, ho1, hb1⟩; have hz1 := hb1.size; have hz2 : w.heap.size < w1.heap.size := (by simp at hz1; omega); obtain ⟨hc1, hf1⟩ := bcell hb1; have k3 : w1.cell? ⟨w.heap.size, 3, none⟩ = some (.int .i64 lv) := (by rw [hc1 _ _ (by simp)]; simp [go_sem]); have k4 : w1.cell? ⟨w.heap.size, 4, none⟩ = some (.int .i64 ra) := (by rw [hc1 _ _ (by simp)]; simp [go_sem]); have k5 : w1.cell? ⟨w.heap.size, 5, none⟩ = some (.int .i64 dr) := (by rw [hc1 _ _ (by simp)]; simp [go_sem]); have k6 : w1.cell? ⟨w.heap.size, 6, none⟩ = some (.int .i64 lo) := (by rw [hc1 _ _ (by simp)]; simp [go_sem]); clear hc1 hf1 ho1)
    go_ret
    exact ⟨ret_bool (by rw [HBE.out]; rfl), by exact tacT⟩
  by_cases e3 : v = lv
  case neg =>
    have q3 : (v == lv) = false := by simpa using e3
    go_enter Tryd.func105, Tryd.ntmps105
    go_wp2_with (go_at_call 107; refine (HCALL.out _ (by exact tacT)).mono ?_; rintro e w1 ⟨A1, c1, rfl, ho1, hb1⟩; have hz1 := hb1.size; have hz2 : w.heap.size < w1.heap.size := (by simp at hz1; omega); obtain ⟨hc1, hf1⟩ := bcell hb1; have k3 : w1.cell? ⟨w.heap.size, 3, none⟩ = some (.int .i64 lv) := (by rw [hc1 _ _ (by simp)]; simp [go_sem]); have k4 : w1.cell? ⟨w.heap.size, 4, none⟩ = some (.int .i64 ra) := (by rw [hc1 _ _ (by simp)]; simp [go_sem]); have k5 : w1.cell? ⟨w.heap.size, 5, none⟩ = some (.int .i64 dr) := (by rw [hc1 _ _ (by simp)]; simp [go_sem]); have k6 : w1.cell? ⟨w.heap.size, 6, none⟩ = some (.int .i64 lo) := (by rw [hc1 _ _ (by simp)]; simp [go_sem]); clear hc1 hf1 ho1)
    go_ret
    exact ⟨ret_bool (by rw [HBE.out]; simp [e3]), by exact tacT⟩
  by_cases e4 : r = ra
  case neg =>
    have q4 : (r == ra) = false := by simpa using e4
    have q3 : (v == lv) = true := by simpa using e3
    clear e3
    go_enter Tryd.func105, Tryd.ntmps105
    go_wp2_with (go_at_call 107; refine (HCALL.out _ (by exact tacT)).mono ?_; rintro e w1 ⟨A1, c1, rfl, ho1, hb1⟩; have hz1 := hb1.size; have hz2 : w.heap.size < w1.heap.size := (by simp at hz1; omega); obtain ⟨hc1, hf1⟩ := bcell hb1; have k3 : w1.cell? ⟨w.heap.size, 3, none⟩ = some (.int .i64 lv) := (by rw [hc1 _ _ (by simp)]; simp [go_sem]); have k4 : w1.cell? ⟨w.heap.size, 4, none⟩ = some (.int .i64 ra) := (by rw [hc1 _ _ (by simp)]; simp [go_sem]); have k5 : w1.cell? ⟨w.heap.size, 5, none⟩ = some (.int .i64 dr) := (by rw [hc1 _ _ (by simp)]; simp [go_sem]); have k6 : w1.cell? ⟨w.heap.size, 6, none⟩ = some (.int .i64 lo) := (by rw [hc1 _ _ (by simp)]; simp [go_sem]); clear hc1 hf1 ho1)
    go_ret
    exact ⟨ret_bool (by rw [HBE.out]; simp [e4]), by exact tacT⟩
  by_cases e5 : d = dr
  case neg =>
    have q5 : (d == dr) = false := by simpa using e5
    have q3 : (v == lv) = true := by simpa using e3
    have q4 : (r == ra) = true := by simpa using e4
    clear e3 e4
    go_enter Tryd.func105, Tryd.ntmps105
    go_wp2_with (go_at_call 107; refine (HCALL.out _ (by exact tacT)).mono ?_; rintro e w1 ⟨A1, c1, rfl, ho1, hb1⟩; have hz1 := hb1.size; have hz2 : w.heap.size < w1.heap.size := (by simp at hz1; omega); obtain ⟨hc1, hf1⟩ := bcell hb1; have k3 : w1.cell? ⟨w.heap.size, 3, none⟩ = some (.int .i64 lv) := (by rw [hc1 _ _ (by simp)]; simp [go_sem]); have k4 : w1.cell? ⟨w.heap.size, 4, none⟩ = some (.int .i64 ra) := (by rw [hc1 _ _ (by simp)]; simp [go_sem]); have k5 : w1.cell? ⟨w.heap.size, 5, none⟩ = some (.int .i64 dr) := (by rw [hc1 _ _ (by simp)]; simp [go_sem]); have k6 : w1.cell? ⟨w.heap.size, 6, none⟩ = some (.int .i64 lo) := (by rw [hc1 _ _ (by simp)]; simp [go_sem]); clear hc1 hf1 ho1)
    go_ret
    exact ⟨ret_bool (by rw [HBE.out]; simp [e5]), by exact tacT⟩
  have q3 : (v == lv) = true := by simpa using e3
  have q4 : (r == ra) = true := by simpa using e4
  have q5 : (d == dr) = true := by simpa using e5
  clear e3 e4 e5
  go_enter Tryd.func105, Tryd.ntmps105
  go_wp2_with (go_at_call 107; refine (HCALL.out _ (by exact tacT)).mono ?_; rintro e w1 ⟨A1, c1, rfl, ho1, hb1⟩; have hz1 := hb1.size; have hz2 : w.heap.size < w1.heap.size := (by simp at hz1; omega); obtain ⟨hc1, hf1⟩ := bcell hb1; have k3 : w1.cell? ⟨w.heap.size, 3, none⟩ = some (.int .i64 lv) := (by rw [hc1 _ _ (by simp)]; simp [go_sem]); have k4 : w1.cell? ⟨w.heap.size, 4, none⟩ = some (.int .i64 ra) := (by rw [hc1 _ _ (by simp)]; simp [go_sem]); have k5 : w1.cell? ⟨w.heap.size, 5, none⟩ = some (.int .i64 dr) := (by rw [hc1 _ _ (by simp)]; simp [go_sem]); have k6 : w1.cell? ⟨w.heap.size, 6, none⟩ = some (.int .i64 lo) := (by rw [hc1 _ _ (by simp)]; simp [go_sem]); clear hc1 hf1 ho1)
  go_ret
  exact ⟨ret_bool (by rw [HBE.out]; simp [q3, q4, q5]), by exact tacT⟩
set_option maxHeartbeats 1600000 in
theorem BookOk_any (A : Option Addr) (c : Nat) (b : Bk) (w : World) (h : RdT w w.heap.size A c b.evs) :
    Calls Tryd.prog 72 #[b.val A c] w fun e w' => e = .returned (.bool (bookOk b)) ∧ Below w.heap.size w w' := by
  obtain ⟨room, start, l, lv, ra, dr, lo⟩ := b
  unfold Bk.val
  simp only at h ⊢
  cases h1 : inB room 1 1000000
  · skip
    have hbe : bookOk ⟨room, start, l, lv, ra, dr, lo⟩ = false := by unfold bookOk; simp only; rw [countBk_no (.inl h1)]; rfl
    have HBE := Lib.hid hbe; clear hbe
    go_enter Tryd.func72, Tryd.ntmps72
    go_wp2_with (go_at_call 41; refine (within_any _ _ _ _).mono ?_; rintro e w' ⟨rfl, rfl⟩)
    go_ret
    exact ⟨ret_bool HBE.out.symm, by exact tacT⟩
  cases h2 : inB start 0 room
  · skip
    have hbe : bookOk ⟨room, start, l, lv, ra, dr, lo⟩ = false := by unfold bookOk; simp only; rw [countBk_no (.inr (.inl h2))]; rfl
    have HBE := Lib.hid hbe; clear hbe
    go_enter Tryd.func72, Tryd.ntmps72
    go_wp2_with (go_at_call 41; refine (within_any _ _ _ _).mono ?_; rintro e w' ⟨rfl, rfl⟩)
    go_ret
    exact ⟨ret_bool HBE.out.symm, by exact tacT⟩
  by_cases h40 : (40 : Int) < l.length
  · skip
    have hbe : bookOk ⟨room, start, l, lv, ra, dr, lo⟩ = false := by unfold bookOk; simp only; rw [countBk_no (.inr (.inr (by omega)))]; rfl
    have HBE := Lib.hid hbe; clear hbe
    go_enter Tryd.func72, Tryd.ntmps72
    go_wp2_with (go_at_call 41; refine (within_any _ _ _ _).mono ?_; rintro e w' ⟨rfl, rfl⟩)
    go_ret
    exact ⟨ret_bool HBE.out.symm, by exact tacT⟩
  have h41 : l.length ≤ 40 := by omega
  obtain ⟨v, r, d, lt, ok, he⟩ : ∃ v r d lt ok, countBk room start l = (v, r, d, lt, ok) := ⟨_, _, _, _, _, rfl⟩
  have hbe := bookOk_eq (b := ⟨room, start, l, lv, ra, dr, lo⟩) he
  simp only at hbe
  rw [countBk_yes h1 h2 h41] at he
  have hcall := fun (W : World) (hb : Below w.heap.size w W) => counted_any room start A c l W (h.below hb) (by omega)
  rw [he] at hcall
  have HCALL := Lib.hid hcall
  have HBE := Lib.hid hbe
  clear hcall he hbe
  cases ok
  · skip
    go_enter Tryd.func72, Tryd.ntmps72
    go_wp2_with (first | (go_at_call 41; refine (within_any _ _ _ _).mono ?_; rintro e w' ⟨rfl, rfl⟩) | (go_at_call 85; refine (HCALL.out _ (by exact tacT)).mono ?_; rintro e w1 ⟨A1, c1, rfl, ho1, hb1⟩; have hz1 := hb1.size; have hz2 : w.heap.size < w1.heap.size := (by simp at hz1; omega); obtain ⟨hc1, hf1⟩ := bcell hb1; have k3 : w1.cell? ⟨w.heap.size, 3, none⟩ = some (.int .i64 lv) := (by rw [hc1 _ _ (by simp)]; simp [go_sem]); have k4 : w1.cell? ⟨w.heap.size, 4, none⟩ = some (.int .i64 ra) := (by rw [hc1 _ _ (by simp)]; simp [go_sem]); have k5 : w1.cell? ⟨w.heap.size, 5, none⟩ = some (.int .i64 dr) := (by rw [hc1 _ _ (by simp)]; simp [go_sem]); have k6 : w1.cell? ⟨w.heap.size, 6, none⟩ = some (.int .i64 lo) := (by rw [hc1 _ _ (by simp)]; simp [go_sem]); clear hc1 hf1 ho1))
    go_ret
    exact ⟨ret_bool (by rw [HBE.out]; rfl), by exact tacT⟩
  by_cases e3 : v = lv
  case neg =>
    have q3 : (v == lv) = false := by simpa using e3
    go_enter Tryd.func72, Tryd.ntmps72
    go_wp2_with (first | (go_at_call 41; refine (within_any _ _ _ _).mono ?_; rintro e w' ⟨rfl, rfl⟩) | (go_at_call 85; refine (HCALL.out _ (by exact tacT)).mono ?_; rintro e w1 ⟨A1, c1, rfl, ho1, hb1⟩; have hz1 := hb1.size; have hz2 : w.heap.size < w1.heap.size := (by simp at hz1; omega); obtain ⟨hc1, hf1⟩ := bcell hb1; have k3 : w1.cell? ⟨w.heap.size, 3, none⟩ = some (.int .i64 lv) := (by rw [hc1 _ _ (by simp)]; simp [go_sem]); have k4 : w1.cell? ⟨w.heap.size, 4, none⟩ = some (.int .i64 ra) := (by rw [hc1 _ _ (by simp)]; simp [go_sem]); have k5 : w1.cell? ⟨w.heap.size, 5, none⟩ = some (.int .i64 dr) := (by rw [hc1 _ _ (by simp)]; simp [go_sem]); have k6 : w1.cell? ⟨w.heap.size, 6, none⟩ = some (.int .i64 lo) := (by rw [hc1 _ _ (by simp)]; simp [go_sem]); clear hc1 hf1 ho1))
    go_ret
    exact ⟨ret_bool (by rw [HBE.out]; simp [e3]), by exact tacT⟩
  by_cases e4 : r = ra
  case neg =>
    have q4 : (r == ra) = false := by simpa using e4
    have q3 : (v == lv) = true := by simpa using e3
    clear e3
    go_enter Tryd.func72, Tryd.ntmps72
    go_wp2_with (first | (go_at_call 41; refine (within_any _ _ _ _).mono ?_; rintro e w' ⟨rfl, rfl⟩) | (go_at_call 85; refine (HCALL.out _ (by exact tacT)).mono ?_; rintro e w1 ⟨A1, c1, rfl, ho1, hb1⟩; have hz1 := hb1.size; have hz2 : w.heap.size < w1.heap.size := (by simp at hz1; omega); obtain ⟨hc1, hf1⟩ := bcell hb1; have k3 : w1.cell? ⟨w.heap.size, 3, none⟩ = some (.int .i64 lv) := (by rw [hc1 _ _ (by simp)]; simp [go_sem]); have k4 : w1.cell? ⟨w.heap.size, 4, none⟩ = some (.int .i64 ra) := (by rw [hc1 _ _ (by simp)]; simp [go_sem]); have k5 : w1.cell? ⟨w.heap.size, 5, none⟩ = some (.int .i64 dr) := (by rw [hc1 _ _ (by simp)]; simp [go_sem]); have k6 : w1.cell? ⟨w.heap.size, 6, none⟩ = some (.int .i64 lo) := (by rw [hc1 _ _ (by simp)]; simp [go_sem]); clear hc1 hf1 ho1))
    go_ret
    exact ⟨ret_bool (by rw [HBE.out]; simp [e4]), by exact tacT⟩
  by_cases e5 : d = dr
  case neg =>
    have q5 : (d == dr) = false := by simpa using e5
    have q3 : (v == lv) = true := by simpa using e3
    have q4 : (r == ra) = true := by simpa using e4
    clear e3 e4
    go_enter Tryd.func72, Tryd.ntmps72
    go_wp2_with (first | (go_at_call 41; refine (within_any _ _ _ _).mono ?_; rintro e w' ⟨rfl, rfl⟩) | (go_at_call 85; refine (HCALL.out _ (by exact tacT)).mono ?_; rintro e w1 ⟨A1, c1, rfl, ho1, hb1⟩; have hz1 := hb1.size; have hz2 : w.heap.size < w1.heap.size := (by simp at hz1; omega); obtain ⟨hc1, hf1⟩ := bcell hb1; have k3 : w1.cell? ⟨w.heap.size, 3, none⟩ = some (.int .i64 lv) := (by rw [hc1 _ _ (by simp)]; simp [go_sem]); have k4 : w1.cell? ⟨w.heap.size, 4, none⟩ = some (.int .i64 ra) := (by rw [hc1 _ _ (by simp)]; simp [go_sem]); have k5 : w1.cell? ⟨w.heap.size, 5, none⟩ = some (.int .i64 dr) := (by rw [hc1 _ _ (by simp)]; simp [go_sem]); have k6 : w1.cell? ⟨w.heap.size, 6, none⟩ = some (.int .i64 lo) := (by rw [hc1 _ _ (by simp)]; simp [go_sem]); clear hc1 hf1 ho1))
    go_ret
    exact ⟨ret_bool (by rw [HBE.out]; simp [e5]), by exact tacT⟩
  have q3 : (v == lv) = true := by simpa using e3
  have q4 : (r == ra) = true := by simpa using e4
  have q5 : (d == dr) = true := by simpa using e5
  clear e3 e4 e5
  go_enter Tryd.func72, Tryd.ntmps72
  go_wp2_with (first | (go_at_call 41; refine (within_any _ _ _ _).mono ?_; rintro e w' ⟨rfl, rfl⟩) | (go_at_call 85; refine (HCALL.out _ (by exact tacT)).mono ?_; rintro e w1 ⟨A1, c1, rfl, ho1, hb1⟩; have hz1 := hb1.size; have hz2 : w.heap.size < w1.heap.size := (by simp at hz1; omega); obtain ⟨hc1, hf1⟩ := bcell hb1; have k3 : w1.cell? ⟨w.heap.size, 3, none⟩ = some (.int .i64 lv) := (by rw [hc1 _ _ (by simp)]; simp [go_sem]); have k4 : w1.cell? ⟨w.heap.size, 4, none⟩ = some (.int .i64 ra) := (by rw [hc1 _ _ (by simp)]; simp [go_sem]); have k5 : w1.cell? ⟨w.heap.size, 5, none⟩ = some (.int .i64 dr) := (by rw [hc1 _ _ (by simp)]; simp [go_sem]); have k6 : w1.cell? ⟨w.heap.size, 6, none⟩ = some (.int .i64 lo) := (by rw [hc1 _ _ (by simp)]; simp [go_sem]); clear hc1 hf1 ho1))
  go_ret
  exact ⟨ret_bool (by rw [HBE.out]; simp [q3, q4, q5]), by exact tacT⟩
end Go.Proofs.YtpmmjhpmheooeaaDoor

namespace Go.Proofs.YtpmmjhpmheooeaaDoor
set_option linter.unusedSimpArgs false
set_option linter.unusedVariables false
open Go.RowKit
set_option maxHeartbeats 1600000 in
theorem l37Copy_any (A : Option Addr) (c : Nat) (b : Bk) (w : World) (h : RdT w w.heap.size A c b.evs) (hs : b.evs.length ≤ 1048576) :
    Calls Tryd.prog 106 #[b.val A c] w fun e w' => ∃ A' c', e = .returned (b.val A' c') ∧ w'.ownsRow w.heap.size 110 3 (.slice A' b.evs.length c') b.evs.length (t3s b.evs) ∧ Below w.heap.size w w' := by
  obtain ⟨hl, hm⟩ := h.le
  obtain ⟨room, start, l, lv, ra, dr, lo⟩ := b
  unfold Bk.val
  simp only at h hl hs ⊢
  go_enter Tryd.func106, Tryd.ntmps106
  go_wp2_with (at_builtin; refine wpList_appAll rfl _ _ 30 rfl w.heap.size 110 (.agg #[.int .i64 0, .int .i64 0, .int .i64 0]) 3 24 Tryd.underlying30 infoEv rfl (by decide) (.slice (some ⟨w.heap.size + 2, 0, none⟩) 0 0) 0 [] rfl (ownEmpty' _ _ _ _ _ (by simp) (by exact ooT)) _ A l.length c (t3s l) rfl (h.below (by exact tacT)) (t3s_one l) (by omega) (by omega) (by exact ooT) ?_)
  intro A1 c1 w1 ho1 hg1
  try simp only [Nat.zero_add, List.nil_append] at ho1
  have hb1 : Below w.heap.size w w1 := Below.grown (by exact tacT) hg1 (by simp <;> omega) (by intro k hk; simp [Value.ownBlock] at hk; omega)
  have hk0 : Blk w1 w.heap.size 32 #[.int .i64 room, .int .i64 start, .slice A l.length c, .int .i64 lv, .int .i64 ra, .int .i64 dr, .int .i64 lo] := Blk.grown (by exact blkT) hg1 (by simp [Value.ownBlock])
  have hk1 : Blk w1 (w.heap.size + 1) 32 #[.int .i64 0, .int .i64 0, .slice none 0 0, .int .i64 0, .int .i64 0, .int .i64 0, .int .i64 0] := Blk.grown (by exact blkT) hg1 (by simp [Value.ownBlock])
  have hz1 : w.heap.size + 1 < w1.heap.size := hk1.lt
  obtain ⟨z0, z1, z2, z3, z4, z5, z6⟩ : w1.cell? ⟨w.heap.size, 0, none⟩ = some (.int .i64 room) ∧ w1.cell? ⟨w.heap.size, 1, none⟩ = some (.int .i64 start) ∧ w1.cell? ⟨w.heap.size, 2, none⟩ = some (.slice A l.length c) ∧ w1.cell? ⟨w.heap.size, 3, none⟩ = some (.int .i64 lv) ∧ w1.cell? ⟨w.heap.size, 4, none⟩ = some (.int .i64 ra) ∧ w1.cell? ⟨w.heap.size, 5, none⟩ = some (.int .i64 dr) ∧ w1.cell? ⟨w.heap.size, 6, none⟩ = some (.int .i64 lo) := ⟨hk0.cell 0, hk0.cell 1, hk0.cell 2, hk0.cell 3, hk0.cell 4, hk0.cell 5, hk0.cell 6⟩
  have y2 : w1.frozen? ⟨w.heap.size, 2, none⟩ = false := hk0.frozen 2
  obtain ⟨x0, x1, x2, x3, x4, x5, x6⟩ : w1.cell? ⟨w.heap.size + 1, 0, none⟩ = some (.int .i64 0) ∧ w1.cell? ⟨w.heap.size + 1, 1, none⟩ = some (.int .i64 0) ∧ w1.cell? ⟨w.heap.size + 1, 2, none⟩ = some (.slice none 0 0) ∧ w1.cell? ⟨w.heap.size + 1, 3, none⟩ = some (.int .i64 0) ∧ w1.cell? ⟨w.heap.size + 1, 4, none⟩ = some (.int .i64 0) ∧ w1.cell? ⟨w.heap.size + 1, 5, none⟩ = some (.int .i64 0) ∧ w1.cell? ⟨w.heap.size + 1, 6, none⟩ = some (.int .i64 0) := ⟨hk1.cell 0, hk1.cell 1, hk1.cell 2, hk1.cell 3, hk1.cell 4, hk1.cell 5, hk1.cell 6⟩
  obtain ⟨y0, y1, y22, y3, y4, y5, y6⟩ : w1.frozen? ⟨w.heap.size + 1, 0, none⟩ = false ∧ w1.frozen? ⟨w.heap.size + 1, 1, none⟩ = false ∧ w1.frozen? ⟨w.heap.size + 1, 2, none⟩ = false ∧ w1.frozen? ⟨w.heap.size + 1, 3, none⟩ = false ∧ w1.frozen? ⟨w.heap.size + 1, 4, none⟩ = false ∧ w1.frozen? ⟨w.heap.size + 1, 5, none⟩ = false ∧ w1.frozen? ⟨w.heap.size + 1, 6, none⟩ = false := ⟨hk1.frozen 0, hk1.frozen 1, hk1.frozen 2, hk1.frozen 3, hk1.frozen 4, hk1.frozen 5, hk1.frozen 6⟩
  have H1 := Lib.hid (And.intro ho1 (And.intro hb1 (And.intro hk0 hk1)))
  clear ho1 hb1 hk0 hk1 hg1
  try simp only [Nat.zero_add]
  go_wp2
  refine bodyPost_ret (v := .agg #[.int .i64 room, .int .i64 start, .slice A1 l.length c1, .int .i64 lv, .int .i64 ra, .int .i64 dr, .int .i64 lo]) ?_ rfl ?_
  · simp [results, Tryd.results106, go_sem, z0, z1, z2, z3, z4, z5, z6, x0, x1, x2, x3, x4, x5, x6]
  · refine ⟨A1, c1, rfl, ?_, ?_⟩
    · exact own_set7 (own_set_blk H1.out.1 H1.out.2.2.1 (by decide) 2 _) (H1.out.2.2.2.far (p := ⟨w.heap.size, 2, none⟩) (by simp) _) (by decide) _ _ _ _ _ _ _
    · have hB := H1.out.2.1
      repeat' (first | (with_reducible exact Below.refl _ _) | (with_reducible assumption) | (with_reducible refine Below.alloc ?_ ?_ _) | (with_reducible refine Below.setCell ?_ ?_ _) | (with_reducible refine Below.drew ?_) | (with_reducible refine below_drewN ?_ _) | (refine Below.trans ?_ (Below.mono (by with_reducible assumption) ?_)) | omega | (simp; done) | (simp; omega))
end Go.Proofs.YtpmmjhpmheooeaaDoor

namespace Go.Proofs.YtpmmjhpmheooeaaDoor
set_option linter.unusedSimpArgs false
set_option linter.unusedVariables false
open Go.RowKit
theorem t3s_tk : ∀ (l : List T3) (k : Nat), t3s (l.take k) = (t3s l).take (k * 3)
  | [], k => by cases k <;> rfl
  | s :: l, 0 => rfl
  | s :: l, k + 1 => by rw [List.take_succ_cons, t3s_cons, t3s_cons, t3s_tk l k, show (k + 1) * 3 = k * 3 + 1 + 1 + 1 by omega]; rfl
theorem RdT.take {w : World} {B c : Nat} {A : Option Addr} {l : List T3} (h : RdT w B A c l) (k : Nat) (hk : k ≤ l.length) : RdT w B A c (l.take k) := by
  obtain ⟨h1, h2, h3, h4⟩ := h
  have e : (l.take k).length = k := by rw [List.length_take]; omega
  refine ⟨?_, by omega, h3, fun hn => ?_⟩
  · rw [t3s_tk, List.length_take]; omega
  · obtain ⟨b, o, h5, h6, h7⟩ := h4 (by omega)
    refine ⟨b, o, h5, h6, fun j u hu => h7 j u ?_⟩
    rw [t3s_tk, List.getElem?_take] at hu
    split at hu
    · exact hu
    · cases hu
theorem runEv_take (room : Int) : ∀ (l : List T3) (k : Nat) (v r d lo : Int), (runEv room l v r d lo).2.2.2.2 = true → (runEv room (l.take k) v r d lo).2.2.2.2 = true
  | [], k, v, r, d, lo, h => by cases k <;> rfl
  | s :: l, 0, v, r, d, lo, h => rfl
  | s :: l, k + 1, v, r, d, lo, h => by
    rw [List.take_succ_cons, runEv_cons]
    rw [runEv_cons] at h
    by_cases hc : (evOn v room s.x s.y s.z).2.2.2.2 = true
    · rw [if_pos hc] at h ⊢; exact runEv_take room l k _ _ _ _ h
    · rw [if_neg hc] at h; cases h
def madeBk (room start : Int) (l : List T3) : Bk := ⟨room, start, l, (runEv room l start 0 0 0).1, (runEv room l start 0 0 0).2.1, (runEv room l start 0 0 0).2.2.1, (runEv room l start 0 0 0).2.2.2.1⟩
theorem bookOk_iff {b : Bk} (h : bookOk b = true) : inB b.room 1 1000000 = true ∧ inB b.start 0 b.room = true ∧ b.evs.length ≤ 40 ∧ (runEv b.room b.evs b.start 0 0 0).2.2.2.2 = true := by
  have h0 : (countBk b.room b.start b.evs).2.2.2.2 = true := by unfold bookOk at h; simp only [Bool.and_eq_true] at h; exact h.1.1.1.1
  unfold countBk at h0
  split at h0
  · rename_i hc
    simp only [Bool.and_eq_true, decide_eq_true_eq] at hc
    exact ⟨hc.1.1, hc.1.2, hc.2, h0⟩
  · cases h0
def strike (b : Bk) : Bk × Bool := if bookOk b = true ∧ 0 < b.evs.length then (madeBk b.room b.start (b.evs.take (b.evs.length - 1)), true) else (b, false)
def BkRet (b : Bk × Bool) (w : World) (e : Ending) (w' : World) : Prop := ∃ A' c', e = .returned (.tuple #[b.1.val A' c', .bool b.2]) ∧ w'.ownsRow w.heap.size 110 3 (.slice A' b.1.evs.length c') b.1.evs.length (t3s b.1.evs) ∧ Below w.heap.size w w'
theorem own_mono {w : World} {base base' : Nat} {e : TypeId} {sz n : Nat} {v : Value} {xs : List Value} (h : w.ownsRow base e sz v n xs) (hb : base' ≤ base) : w.ownsRow base' e sz v n xs := by
  refine ⟨h.1, ?_⟩
  rcases h.2 with h2 | ⟨g, cap, cur, hv, hg, r⟩
  · exact .inl h2
  · exact .inr ⟨g, cap, cur, hv, by omega, r⟩
end Go.Proofs.YtpmmjhpmheooeaaDoor

namespace Go.Proofs.YtpmmjhpmheooeaaDoor
set_option linter.unusedSimpArgs false
set_option linter.unusedVariables false
open Go.RowKit
def drunkGo (kk : Int) : List T3 → Int → Int
  | [], n => n
  | t :: r, n => drunkGo kk r (if t.x = 2 ∧ t.z = kk then wrap64 (n + t.y) else n)
theorem drunkGo_cons (kk : Int) (t : T3) (r : List T3) (n : Int) : drunkGo kk (t :: r) n = drunkGo kk r (if t.x = 2 ∧ t.z = kk then wrap64 (n + t.y) else n) := rfl
def drunkBy (b : Bk) (kk : Int) : Int := if bookOk b = true then drunkGo kk b.evs 0 else -1
set_option maxHeartbeats 1600000 in
theorem DrunkBy_any (A : Option Addr) (c : Nat) (b : Bk) (kk : Int) (w : World) (h : RdT w w.heap.size A c b.evs) :
    Calls Tryd.prog 51 #[b.val A c, .int .i64 kk] w fun e w' => e = .returned (.int .i64 (drunkBy b kk)) ∧ Below w.heap.size w w' := by
  obtain ⟨hl, hm⟩ := h.le
  have hcall := fun (W : World) (hb : Below w.heap.size w W) => BookOk_any A c b W (h.below hb)
  obtain ⟨R, hR⟩ : ∃ R, R = drunkBy b kk := ⟨_, rfl⟩
  rw [← hR]
  unfold drunkBy at hR
  cases hq : bookOk b
  · rw [hq] at hcall hR
    obtain ⟨room, start, l, lv, ra, dr, lo⟩ := b
    unfold Bk.val at hcall ⊢
    simp only at h hl hcall ⊢
    have HCALL := Lib.hid (And.intro hcall hR); clear hcall hR hq
    go_enter Tryd.func51, Tryd.ntmps51
    go_wp2_with (go_at_call 72; refine (HCALL.out.1 _ (by exact tacT)).mono ?_; rintro e w1 ⟨rfl, hb1⟩; have hz1 := hb1.size; have hz2 : w.heap.size < w1.heap.size := (by simp at hz1; omega))
    go_ret
    exact ⟨ret_int HCALL.out.2.symm, by exact tacT⟩
  rw [hq] at hcall hR
  obtain ⟨room, start, l, lv, ra, dr, lo⟩ := b
  unfold Bk.val at hcall ⊢
  simp only [if_true] at h hl hcall hR ⊢
  have HCALL := Lib.hid (And.intro hcall hR); clear hcall hR hq
  go_enter Tryd.func51, Tryd.ntmps51
  go_wp2_with (go_at_call 72; refine (HCALL.out.1 _ (by exact tacT)).mono ?_; rintro e w1 ⟨rfl, hb1⟩; have hz1 := hb1.size; have hz2 : w.heap.size < w1.heap.size := (by simp at hz1; omega); have hB1 : Below w.heap.size w w1 := (by exact tacT); obtain ⟨hc1, hf1⟩ := bcell hb1; have k2 : w1.cell? ⟨w.heap.size, 2, none⟩ = some (.slice A l.length c) := (by rw [hc1 _ _ (by simp)]; simp [go_sem]); clear hc1 hf1)
  go_loopw [5, 14] (fun n i wr => ∃ (k : Nat) (m : Int), k ≤ l.length ∧ i = .int .i64 k ∧ n = .int .i64 m ∧ drunkGo kk (l.drop k) m = R ∧ Below w.heap.size w wr) (fun _ i _ => l.length - (intOf i).toNat)
  case atStart => exact ⟨0, 0, Nat.zero_le _, rfl, rfl, HCALL.out.2.symm, hB1⟩
  case round =>
    obtain ⟨k, m, hk, rfl, rfl, hr, hB⟩ := hrel
    by_cases hlt : k < l.length
    · obtain ⟨b, o, t, rfl, hbb, hx, e0, e1, e2⟩ := h.at_ hlt
      have f0 : wr.cell? ⟨b, o + k * 3, none⟩ = some (.int .i64 t.x) := (hB.cell (p := ⟨b, _, none⟩) hbb).trans e0
      have f1 : wr.cell? ⟨b, o + k * 3 + 1, none⟩ = some (.int .i64 t.y) := (hB.cell (p := ⟨b, _, none⟩) hbb).trans e1
      have f2 : wr.cell? ⟨b, o + k * 3 + 2, none⟩ = some (.int .i64 t.z) := (hB.cell (p := ⟨b, _, none⟩) hbb).trans e2
      clear e0 e1 e2
      have hwz := hB.size
      have hbr : b < wr.heap.size := by omega
      rw [drop_cons hx, drunkGo_cons] at hr
      by_cases h2 : t.x = 2
      · by_cases h3 : t.z = kk
        · rw [if_pos ⟨h2, h3⟩] at hr
          have HX := Lib.hid (And.intro hr hB); clear hr hB hx
          rw [h2] at f0
          rw [h3] at f2
          go_wp2
          go_roundw
          case rel => exact ⟨k + 1, wrap64 (m + t.y), by omega, by go_num, rfl, HX.out.1, HX.out.2.alloc (by omega) _⟩
          case measure => simp [intOf]; omega
        · rw [if_neg (fun e => h3 e.2)] at hr
          have HX := Lib.hid (And.intro hr hB); clear hr hB hx
          rw [h2] at f0
          go_wp2
          go_roundw
          case rel => exact ⟨k + 1, m, by omega, by go_num, rfl, HX.out.1, HX.out.2.alloc (by omega) _⟩
          case measure => simp [intOf]; omega
      · rw [if_neg (fun e => h2 e.1)] at hr
        have HX := Lib.hid (And.intro hr hB); clear hr hB hx
        go_wp2
        go_roundw
        case rel => exact ⟨k + 1, m, by omega, by go_num, rfl, HX.out.1, HX.out.2.alloc (by omega) _⟩
        case measure => simp [intOf]; omega
    · have e1 : R = m := by rw [← hr, drop_end hlt]; rfl
      go_wp2
      go_ret
      exact ⟨ret_int e1.symm, hB⟩
end Go.Proofs.YtpmmjhpmheooeaaDoor

namespace Go.Proofs.YtpmmjhpmheooeaaDoor
set_option linter.unusedSimpArgs false
set_option linter.unusedVariables false
open Go.RowKit
theorem evOn_liters {v room k l o : Int} (h : (evOn v room k l o).2.2.2.2 = true) : 0 ≤ l ∧ l ≤ 1000000 := by
  cases h3 : inB l 0 1000000
  · rw [evOn_bad (.inr (.inr h3))] at h; cases h
  · exact inB_iff.1 h3
theorem runEv_liters (room : Int) : ∀ (l : List T3) (v r d lo : Int), (runEv room l v r d lo).2.2.2.2 = true → ∀ e ∈ l, 0 ≤ e.y ∧ e.y ≤ 1000000
  | [], _, _, _, _, _ => fun e he => by cases he
  | x :: l, v, r, d, lo, h => by
    rw [runEv_cons] at h
    by_cases hc : (evOn v room x.x x.y x.z).2.2.2.2 = true
    · rw [if_pos hc] at h
      intro e he
      rcases List.mem_cons.1 he with rfl | he
      · exact evOn_liters hc
      · exact runEv_liters room l _ _ _ _ h e he
    · rw [if_neg hc] at h; cases h
theorem runEv_rained (room : Int) : ∀ (l : List T3) (v r d lo : Int), (runEv room l v r d lo).2.2.2.2 = true → r ≤ (runEv room l v r d lo).2.1 ∧ (runEv room l v r d lo).2.1 ≤ r + 1000000 * l.length
  | [], v, r, d, lo, _ => ⟨Int.le_refl r, by show r ≤ r + 1000000 * ((0 : Nat) : Int); omega⟩
  | x :: l, v, r, d, lo, h => by
    rw [runEv_cons] at h ⊢
    by_cases hc : (evOn v room x.x x.y x.z).2.2.2.2 = true
    · rw [if_pos hc] at h ⊢
      have h1 := runEv_rained room l _ _ _ _ h
      have h2 := evOn_bounds v room x.x x.y x.z hc
      simp only [List.length_cons]
      omega
    · rw [if_neg hc] at h; cases h
theorem wrap_in {a : Int} (h1 : -9223372036854775808 ≤ a) (h2 : a ≤ 9223372036854775807) : wrap64 a = a := by
  unfold wrap64; omega
theorem drunkGo_bd (kk : Int) : ∀ (l : List T3) (n : Int) (m : Nat), (∀ e ∈ l, 0 ≤ e.y ∧ e.y ≤ 1000000) → 0 ≤ n → n ≤ 1000000 * m → m + l.length ≤ 1000 → 0 ≤ drunkGo kk l n ∧ drunkGo kk l n ≤ 1000000 * (m + l.length)
  | [], n, m, _, h1, h2, _ => ⟨h1, by simp only [List.length_nil]; show n ≤ _; omega⟩
  | x :: l, n, m, h, h1, h2, h3 => by
    rw [drunkGo_cons]
    have hx := h x (List.mem_cons_self ..)
    have hl : ∀ e ∈ l, 0 ≤ e.y ∧ e.y ≤ 1000000 := fun e he => h e (List.mem_cons_of_mem _ he)
    simp only [List.length_cons] at h3 ⊢
    split
    · rw [wrap_in (by omega) (by omega)]
      have := drunkGo_bd kk l (n + x.y) (m + 1) hl (by omega) (by omega) (by omega)
      omega
    · have := drunkGo_bd kk l n (m + 1) hl (by omega) (by omega) (by omega)
      omega
theorem drunkBy_bd (b : Bk) (kk : Int) : -1 ≤ drunkBy b kk ∧ drunkBy b kk ≤ 40000000 := by
  unfold drunkBy
  split
  · rename_i h
    obtain ⟨_, _, i3, i4⟩ := bookOk_iff h
    have := drunkGo_bd kk b.evs 0 0 (runEv_liters _ _ _ _ _ _ i4) (by omega) (by omega) (by omega)
    omega
  · omega
theorem book_bd {b : Bk} (h : bookOk b = true) : 0 ≤ b.start ∧ b.start ≤ 1000000 ∧ 0 ≤ b.rained ∧ b.rained ≤ 40000000 := by
  obtain ⟨i1, i2, i3, i4⟩ := bookOk_iff h
  have h1 := inB_iff.1 i1
  have h2 := inB_iff.1 i2
  have h3 := runEv_rained _ _ _ _ _ _ i4
  have he : (countBk b.room b.start b.evs).2.1 = b.rained := by
    unfold bookOk at h
    simp only [Bool.and_eq_true, beq_iff_eq] at h
    exact h.1.1.2
  rw [countBk_yes i1 i2 i3] at he
  rw [he] at h3
  omega
theorem partOf_bd (t b m : Int) : -1 ≤ partOf t b m ∧ partOf t b m ≤ 10000000000 := by
  unfold partOf
  split
  · rename_i h
    rw [Bool.and_eq_true] at h
    obtain ⟨f1, f2, f3, f4⟩ := fracOk_iff h.1
    obtain ⟨m1, m2⟩ := inB_iff.1 h.2
    have p1 : 0 ≤ m * t := Int.mul_nonneg m1 f1
    have p2 : m * t ≤ 10000000000 := by have := Int.mul_le_mul m2 f2 f1 (by omega); omega
    have q1 : 0 ≤ m * t / b := Int.ediv_nonneg p1 (by omega)
    have q2 : m * t / b ≤ m * t := Int.ediv_le_self _ p1
    omega
  · omega
theorem findGo_cases : ∀ (l : List T3) (k : Nat) (o : Int), (findGo l k o = -1 ∧ ∀ t ∈ l, t.x ≠ o) ∨ ∃ (j : Nat) (t : T3), findGo l k o = ((k + j : Nat) : Int) ∧ l[j]? = some t ∧ t.x = o ∧ shareOf l o = (t.y, t.z)
  | [], _, _ => .inl ⟨rfl, fun t ht => by cases ht⟩
  | x :: l, k, o => by
    rw [findGo_cons, shareOf_cons]
    by_cases hx : x.x = o
    · rw [if_pos hx, if_pos hx]
      exact .inr ⟨0, x, rfl, rfl, hx, rfl⟩
    · rw [if_neg hx, if_neg hx]
      rcases findGo_cases l (k + 1) o with ⟨h1, h2⟩ | ⟨j, t, h1, h2, h3, h4⟩
      · refine .inl ⟨h1, fun t ht => ?_⟩
        rcases List.mem_cons.1 ht with rfl | ht
        · exact hx
        · exact h2 t ht
      · exact .inr ⟨j + 1, t, by rw [h1]; congr 1; omega, by simpa using h2, h3, h4⟩
theorem rightAt_cases (l : List T3) (o : Int) : (rightAt l o = -1 ∧ ∀ t ∈ l, t.x ≠ o) ∨ ∃ (k : Nat) (t : T3), rightAt l o = (k : Int) ∧ k < l.length ∧ l[k]? = some t ∧ t.x = o ∧ shareOf l o = (t.y, t.z) := by
  rcases findGo_cases l 0 o with h | ⟨j, t, h1, h2, h3, h4⟩
  · exact .inl h
  · exact .inr ⟨j, t, by unfold rightAt; rw [h1, Nat.zero_add], (List.getElem?_eq_some_iff.1 h2).1, h2, h3, h4⟩
end Go.Proofs.YtpmmjhpmheooeaaDoor

namespace Go.Proofs.YtpmmjhpmheooeaaDoor
set_option linter.unusedSimpArgs false
set_option linter.unusedVariables false
open Go.RowKit
set_option maxRecDepth 20000
theorem Chg.of_alloc {lo hi : Nat} {w w' : World} (o : Obj) (h : Chg lo hi (w.alloc o) w') : Chg lo hi w w' :=
  ⟨h.os, h.tape, h.output, by have := h.size; simp at this; omega, fun k hk hn => (h.block k (by simp; omega) hn).trans (Below.heap_alloc w o k hk)⟩
end Go.Proofs.YtpmmjhpmheooeaaDoor

namespace Go.Proofs.YtpmmjhpmheooeaaDoor
set_option linter.unusedSimpArgs false
set_option linter.unusedVariables false
open Go.RowKit
end Go.Proofs.YtpmmjhpmheooeaaDoor
