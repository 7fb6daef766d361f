/- Events: the copy, EventOn. -/
import Derived.Test.YtbkgofjajhplpaaDoorBase
import Derived.Test.YtbkgofjajhplpaaDoorQueue
namespace Go.Proofs.YtbkgofjajhplpaaDoor
set_option linter.unusedSimpArgs false
set_option linter.unusedVariables false
open Go.RowKit
/-- new level, rained, drunk, lost, ok -/
def evOn (level room k l o : Int) : Int × Int × Int × Int × Bool :=
  if !(inB room 1 1000000 && inB level 0 room && inB l 0 1000000) then (level, 0, 0, 0, false)
  else if k = 1 ∧ o = 0 then (level + min l (room - level), l, 0, l - min l (room - level), true)
  else if k = 2 ∧ (1 ≤ o ∧ o ≤ 999) ∧ l ≤ level then (level - l, 0, l, 0, true)
  else if k = 3 ∧ o = 0 ∧ l ≤ level then (level - l, 0, 0, l, true)
  else (level, 0, 0, 0, false)
def evRet (r : Int × Int × Int × Int × Bool) : Ending := .returned (.tuple #[.int .i64 r.1, .int .i64 r.2.1, .int .i64 r.2.2.1, .int .i64 r.2.2.2.1, .bool r.2.2.2.2])
set_option maxHeartbeats 400000 in
theorem toEvent_any (x y z : Int) (w : World) :
    Calls Tryd.prog 118 #[.agg #[.int .i64 x, .int .i64 y, .int .i64 z]] w fun e w' => e = .returned (.agg #[.int .i64 x, .int .i64 y, .int .i64 z]) ∧ Below w.heap.size w w' := by
  go_enter Tryd.func118, Tryd.ntmps118
  go_wp2
  exact bodyPost_ret (v := .agg #[.int .i64 x, .int .i64 y, .int .i64 z]) (by simp [results, Tryd.results118, go_sem]) rfl ⟨rfl, by repeat' (first | exact Below.refl _ _ | refine Below.alloc ?_ ?_ _ | refine Below.setCell ?_ ?_ _ | (simp; done) | (simp; omega))⟩
theorem evOn_bad {level room k l o : Int} (h : inB room 1 1000000 = false ∨ inB level 0 room = false ∨ inB l 0 1000000 = false) : evOn level room k l o = (level, 0, 0, 0, false) := by
  unfold evOn; rcases h with h | h | h <;> simp [h]
theorem evOn_good {level room k l o : Int} (h1 : inB room 1 1000000 = true) (h2 : inB level 0 room = true) (h3 : inB l 0 1000000 = true) : evOn level room k l o =
    if k = 1 ∧ o = 0 then (level + min l (room - level), l, 0, l - min l (room - level), true)
    else if k = 2 ∧ (1 ≤ o ∧ o ≤ 999) ∧ l ≤ level then (level - l, 0, l, 0, true)
    else if k = 3 ∧ o = 0 ∧ l ≤ level then (level - l, 0, 0, l, true)
    else (level, 0, 0, 0, false) := by unfold evOn; rw [h1, h2, h3]; rfl
set_option maxHeartbeats 3200000 in
theorem EventOn_any (level room k l o : Int) (w : World) :
    Calls Tryd.prog 134 #[.int .i64 level, .int .i64 room, .agg #[.int .i64 k, .int .i64 l, .int .i64 o]] w fun e w' => e = evRet (evOn level room k l o) ∧ Below w.heap.size w w' := by
  cases h1 : inB room 1 1000000
  · have E1 := Lib.hid (evOn_bad (k := k) (o := o) (level := level) (l := l) (.inl h1))
    go_enter Tryd.func134, Tryd.ntmps134
    go_wp2_with (first | (go_at_call 71; refine (within_any _ _ _ _).mono ?_; rintro e w' ⟨rfl, rfl⟩))
    rw [E1.out]
    exact bodyPost_ret (v := .tuple #[.int .i64 level, .int .i64 0, .int .i64 0, .int .i64 0, .bool false]) (by simp [results, Tryd.results134, go_sem]) rfl ⟨rfl, (by repeat' (first | (with_reducible exact Below.refl _ _) | (with_reducible assumption) | (with_reducible refine Below.alloc ?_ ?_ _) | (with_reducible refine Below.setCell ?_ ?_ _) | (with_reducible refine Below.drew ?_) | (with_reducible refine below_drewN ?_ _) | (refine Below.trans ?_ (Below.mono (by with_reducible assumption) ?_)) | omega | (simp; done) | (simp; omega)))⟩
  cases h2 : inB level 0 room
  · have E1 := Lib.hid (evOn_bad (k := k) (o := o) (l := l) (room := room) (.inr (.inl h2)))
    go_enter Tryd.func134, Tryd.ntmps134
    go_wp2_with (first | (go_at_call 71; refine (within_any _ _ _ _).mono ?_; rintro e w' ⟨rfl, rfl⟩))
    rw [E1.out]
    exact bodyPost_ret (v := .tuple #[.int .i64 level, .int .i64 0, .int .i64 0, .int .i64 0, .bool false]) (by simp [results, Tryd.results134, go_sem]) rfl ⟨rfl, (by repeat' (first | (with_reducible exact Below.refl _ _) | (with_reducible assumption) | (with_reducible refine Below.alloc ?_ ?_ _) | (with_reducible refine Below.setCell ?_ ?_ _) | (with_reducible refine Below.drew ?_) | (with_reducible refine below_drewN ?_ _) | (refine Below.trans ?_ (Below.mono (by with_reducible assumption) ?_)) | omega | (simp; done) | (simp; omega)))⟩
  cases h3 : inB l 0 1000000
  · have E1 := Lib.hid (evOn_bad (k := k) (o := o) (level := level) (room := room) (.inr (.inr h3)))
    go_enter Tryd.func134, Tryd.ntmps134
    go_wp2_with (first | (go_at_call 71; refine (within_any _ _ _ _).mono ?_; rintro e w' ⟨rfl, rfl⟩))
    rw [E1.out]
    exact bodyPost_ret (v := .tuple #[.int .i64 level, .int .i64 0, .int .i64 0, .int .i64 0, .bool false]) (by simp [results, Tryd.results134, go_sem]) rfl ⟨rfl, (by repeat' (first | (with_reducible exact Below.refl _ _) | (with_reducible assumption) | (with_reducible refine Below.alloc ?_ ?_ _) | (with_reducible refine Below.setCell ?_ ?_ _) | (with_reducible refine Below.drew ?_) | (with_reducible refine below_drewN ?_ _) | (refine Below.trans ?_ (Below.mono (by with_reducible assumption) ?_)) | omega | (simp; done) | (simp; omega)))⟩
  have e0 := evOn_good (k := k) (o := o) h1 h2 h3
  obtain ⟨r1, r2⟩ := inB_iff.1 h1
  obtain ⟨v1, v2⟩ := inB_iff.1 h2
  obtain ⟨l1, l2⟩ := inB_iff.1 h3
  by_cases ha : k = 1 ∧ o = 0
  · rw [if_pos ha] at e0
    have E1 := Lib.hid e0; clear e0
    obtain ⟨rfl, rfl⟩ := ha
    by_cases hm : l ≤ room - level
    all_goals
      go_enter Tryd.func134, Tryd.ntmps134
      go_wp2_with (first | (go_at_call 71; refine (within_any _ _ _ _).mono ?_; rintro e w' ⟨rfl, rfl⟩))
      have q1 : IntKind.i64.wrap (level + l) = level + l := IntWalk.i64_in _ (by omega)
      have q2 : IntKind.i64.wrap (l - l) = l - l := IntWalk.i64_in _ (by omega)
      have q3 : IntKind.i64.wrap (level + (room - level)) = level + (room - level) := IntWalk.i64_in _ (by omega)
      have q4 : IntKind.i64.wrap (l - (room - level)) = l - (room - level) := IntWalk.i64_in _ (by omega)
      go_quiet (fail)
      clear q1 q2 q3 q4
      go_wp2
      rw [E1.out]
    · have e1 : min l (room - level) = l := by omega
      rw [e1]
      exact bodyPost_ret (v := .tuple #[.int .i64 (level + l), .int .i64 (l), .int .i64 (0), .int .i64 (l - l), .bool true]) (by simp [results, Tryd.results134, go_sem]) rfl ⟨rfl, (by repeat' (first | (with_reducible exact Below.refl _ _) | (with_reducible assumption) | (with_reducible refine Below.alloc ?_ ?_ _) | (with_reducible refine Below.setCell ?_ ?_ _) | (with_reducible refine Below.drew ?_) | (with_reducible refine below_drewN ?_ _) | (refine Below.trans ?_ (Below.mono (by with_reducible assumption) ?_)) | omega | (simp; done) | (simp; omega)))⟩
    · have e1 : min l (room - level) = room - level := by omega
      rw [e1]
      exact bodyPost_ret (v := .tuple #[.int .i64 (level + (room - level)), .int .i64 (l), .int .i64 (0), .int .i64 (l - (room - level)), .bool true]) (by simp [results, Tryd.results134, go_sem]) rfl ⟨rfl, (by repeat' (first | (with_reducible exact Below.refl _ _) | (with_reducible assumption) | (with_reducible refine Below.alloc ?_ ?_ _) | (with_reducible refine Below.setCell ?_ ?_ _) | (with_reducible refine Below.drew ?_) | (with_reducible refine below_drewN ?_ _) | (refine Below.trans ?_ (Below.mono (by with_reducible assumption) ?_)) | omega | (simp; done) | (simp; omega)))⟩
  rw [if_neg ha] at e0
  by_cases hb : k = 2 ∧ (1 ≤ o ∧ o ≤ 999) ∧ l ≤ level
  · rw [if_pos hb] at e0
    have E1 := Lib.hid e0; clear e0 ha
    obtain ⟨rfl, ⟨o1, o2⟩, hl⟩ := hb
    have h9 : inB o 1 999 = true := inB_iff.2 ⟨o1, o2⟩
    go_enter Tryd.func134, Tryd.ntmps134
    go_wp2_with (first | (go_at_call 71; refine (within_any _ _ _ _).mono ?_; rintro e w' ⟨rfl, rfl⟩))
    have q1 : IntKind.i64.wrap (level - l) = level - l := IntWalk.i64_in _ (by omega)
    go_quiet (fail)
    clear q1
    go_wp2
    rw [E1.out]
    exact bodyPost_ret (v := .tuple #[.int .i64 (level - l), .int .i64 (0), .int .i64 (l), .int .i64 (0), .bool true]) (by simp [results, Tryd.results134, go_sem]) rfl ⟨rfl, (by repeat' (first | (with_reducible exact Below.refl _ _) | (with_reducible assumption) | (with_reducible refine Below.alloc ?_ ?_ _) | (with_reducible refine Below.setCell ?_ ?_ _) | (with_reducible refine Below.drew ?_) | (with_reducible refine below_drewN ?_ _) | (refine Below.trans ?_ (Below.mono (by with_reducible assumption) ?_)) | omega | (simp; done) | (simp; omega)))⟩
  rw [if_neg hb] at e0
  by_cases hd : k = 3 ∧ o = 0 ∧ l ≤ level
  · rw [if_pos hd] at e0
    have E1 := Lib.hid e0; clear e0 ha hb
    obtain ⟨rfl, rfl, hl⟩ := hd
    go_enter Tryd.func134, Tryd.ntmps134
    go_wp2_with (first | (go_at_call 71; refine (within_any _ _ _ _).mono ?_; rintro e w' ⟨rfl, rfl⟩))
    have q1 : IntKind.i64.wrap (level - l) = level - l := IntWalk.i64_in _ (by omega)
    go_quiet (fail)
    clear q1
    go_wp2
    rw [E1.out]
    exact bodyPost_ret (v := .tuple #[.int .i64 (level - l), .int .i64 (0), .int .i64 (0), .int .i64 (l), .bool true]) (by simp [results, Tryd.results134, go_sem]) rfl ⟨rfl, (by repeat' (first | (with_reducible exact Below.refl _ _) | (with_reducible assumption) | (with_reducible refine Below.alloc ?_ ?_ _) | (with_reducible refine Below.setCell ?_ ?_ _) | (with_reducible refine Below.drew ?_) | (with_reducible refine below_drewN ?_ _) | (refine Below.trans ?_ (Below.mono (by with_reducible assumption) ?_)) | omega | (simp; done) | (simp; omega)))⟩
  rw [if_neg hd] at e0
  have E1 := Lib.hid e0; clear e0
  by_cases k1 : k = 1
  · subst k1
    have o0 : (o == 0) = false := by simp; omega
    clear ha hb hd
    go_enter Tryd.func134, Tryd.ntmps134
    go_wp2_with (first | (go_at_call 71; refine (within_any _ _ _ _).mono ?_; rintro e w' ⟨rfl, rfl⟩))
    rw [E1.out]
    exact bodyPost_ret (v := .tuple #[.int .i64 (level), .int .i64 (0), .int .i64 (0), .int .i64 (0), .bool false]) (by simp [results, Tryd.results134, go_sem]) rfl ⟨rfl, (by repeat' (first | (with_reducible exact Below.refl _ _) | (with_reducible assumption) | (with_reducible refine Below.alloc ?_ ?_ _) | (with_reducible refine Below.setCell ?_ ?_ _) | (with_reducible refine Below.drew ?_) | (with_reducible refine below_drewN ?_ _) | (refine Below.trans ?_ (Below.mono (by with_reducible assumption) ?_)) | omega | (simp; done) | (simp; omega)))⟩
  by_cases k2 : k = 2
  · subst k2
    cases h9 : inB o 1 999
    · clear ha hb hd
      go_enter Tryd.func134, Tryd.ntmps134
      go_wp2_with (first | (go_at_call 71; refine (within_any _ _ _ _).mono ?_; rintro e w' ⟨rfl, rfl⟩))
      rw [E1.out]
      exact bodyPost_ret (v := .tuple #[.int .i64 (level), .int .i64 (0), .int .i64 (0), .int .i64 (0), .bool false]) (by simp [results, Tryd.results134, go_sem]) rfl ⟨rfl, (by repeat' (first | (with_reducible exact Below.refl _ _) | (with_reducible assumption) | (with_reducible refine Below.alloc ?_ ?_ _) | (with_reducible refine Below.setCell ?_ ?_ _) | (with_reducible refine Below.drew ?_) | (with_reducible refine below_drewN ?_ _) | (refine Below.trans ?_ (Below.mono (by with_reducible assumption) ?_)) | omega | (simp; done) | (simp; omega)))⟩
    · have hl : ¬ l ≤ level := fun h => hb ⟨rfl, inB_iff.1 h9, h⟩
      clear ha hb hd
      go_enter Tryd.func134, Tryd.ntmps134
      go_wp2_with (first | (go_at_call 71; refine (within_any _ _ _ _).mono ?_; rintro e w' ⟨rfl, rfl⟩))
      rw [E1.out]
      exact bodyPost_ret (v := .tuple #[.int .i64 (level), .int .i64 (0), .int .i64 (0), .int .i64 (0), .bool false]) (by simp [results, Tryd.results134, go_sem]) rfl ⟨rfl, (by repeat' (first | (with_reducible exact Below.refl _ _) | (with_reducible assumption) | (with_reducible refine Below.alloc ?_ ?_ _) | (with_reducible refine Below.setCell ?_ ?_ _) | (with_reducible refine Below.drew ?_) | (with_reducible refine below_drewN ?_ _) | (refine Below.trans ?_ (Below.mono (by with_reducible assumption) ?_)) | omega | (simp; done) | (simp; omega)))⟩
  have g1 : (k == 1) = false := by simp; omega
  have g2 : (k == 2) = false := by simp; omega
  by_cases k3 : k = 3
  · subst k3
    by_cases o0 : o = 0
    · subst o0
      have hl : ¬ l ≤ level := fun h => hd ⟨rfl, rfl, h⟩
      clear ha hb hd
      go_enter Tryd.func134, Tryd.ntmps134
      go_wp2_with (first | (go_at_call 71; refine (within_any _ _ _ _).mono ?_; rintro e w' ⟨rfl, rfl⟩))
      rw [E1.out]
      exact bodyPost_ret (v := .tuple #[.int .i64 (level), .int .i64 (0), .int .i64 (0), .int .i64 (0), .bool false]) (by simp [results, Tryd.results134, go_sem]) rfl ⟨rfl, (by repeat' (first | (with_reducible exact Below.refl _ _) | (with_reducible assumption) | (with_reducible refine Below.alloc ?_ ?_ _) | (with_reducible refine Below.setCell ?_ ?_ _) | (with_reducible refine Below.drew ?_) | (with_reducible refine below_drewN ?_ _) | (refine Below.trans ?_ (Below.mono (by with_reducible assumption) ?_)) | omega | (simp; done) | (simp; omega)))⟩
    · have o1 : (o == 0) = false := by simp; omega
      clear ha hb hd
      go_enter Tryd.func134, Tryd.ntmps134
      go_wp2_with (first | (go_at_call 71; refine (within_any _ _ _ _).mono ?_; rintro e w' ⟨rfl, rfl⟩))
      rw [E1.out]
      exact bodyPost_ret (v := .tuple #[.int .i64 (level), .int .i64 (0), .int .i64 (0), .int .i64 (0), .bool false]) (by simp [results, Tryd.results134, go_sem]) rfl ⟨rfl, (by repeat' (first | (with_reducible exact Below.refl _ _) | (with_reducible assumption) | (with_reducible refine Below.alloc ?_ ?_ _) | (with_reducible refine Below.setCell ?_ ?_ _) | (with_reducible refine Below.drew ?_) | (with_reducible refine below_drewN ?_ _) | (refine Below.trans ?_ (Below.mono (by with_reducible assumption) ?_)) | omega | (simp; done) | (simp; omega)))⟩
  have g3 : (k == 3) = false := by simp; omega
  clear ha hb hd k1 k2 k3
  go_enter Tryd.func134, Tryd.ntmps134
  go_wp2_with (first | (go_at_call 71; refine (within_any _ _ _ _).mono ?_; rintro e w' ⟨rfl, rfl⟩))
  rw [E1.out]
  exact bodyPost_ret (v := .tuple #[.int .i64 (level), .int .i64 (0), .int .i64 (0), .int .i64 (0), .bool false]) (by simp [results, Tryd.results134, go_sem]) rfl ⟨rfl, (by repeat' (first | (with_reducible exact Below.refl _ _) | (with_reducible assumption) | (with_reducible refine Below.alloc ?_ ?_ _) | (with_reducible refine Below.setCell ?_ ?_ _) | (with_reducible refine Below.drew ?_) | (with_reducible refine below_drewN ?_ _) | (refine Below.trans ?_ (Below.mono (by with_reducible assumption) ?_)) | omega | (simp; done) | (simp; omega)))⟩
set_option maxHeartbeats 3200000 in
theorem EventOnS_any (level room k l o : Int) (w : World) :
    Calls Tryd.prog 133 #[.int .i64 level, .int .i64 room, .agg #[.int .i64 k, .int .i64 l, .int .i64 o]] w fun e w' => e = evRet (evOn level room k l o) ∧ Below w.heap.size w w' := by
  cases h1 : inB room 1 1000000
  · have E1 := Lib.hid (evOn_bad (k := k) (o := o) (level := level) (l := l) (.inl h1))
    go_enter Tryd.func133, Tryd.ntmps133
    go_wp2_with (first | (go_at_call 57; refine (l01In_any _ _ _ _).mono ?_; rintro e w' ⟨rfl, rfl⟩) | (go_at_call 148; refine (l04Water_any _ _).mono ?_; rintro e w' ⟨rfl, rfl⟩))
    rw [E1.out]
    exact bodyPost_ret (v := .tuple #[.int .i64 level, .int .i64 0, .int .i64 0, .int .i64 0, .bool false]) (by simp [results, Tryd.results133, go_sem]) rfl ⟨rfl, (by repeat' (first | (with_reducible exact Below.refl _ _) | (with_reducible assumption) | (with_reducible refine Below.alloc ?_ ?_ _) | (with_reducible refine Below.setCell ?_ ?_ _) | (with_reducible refine Below.drew ?_) | (with_reducible refine below_drewN ?_ _) | (refine Below.trans ?_ (Below.mono (by with_reducible assumption) ?_)) | omega | (simp; done) | (simp; omega)))⟩
  cases h2 : inB level 0 room
  · have E1 := Lib.hid (evOn_bad (k := k) (o := o) (l := l) (room := room) (.inr (.inl h2)))
    go_enter Tryd.func133, Tryd.ntmps133
    go_wp2_with (first | (go_at_call 57; refine (l01In_any _ _ _ _).mono ?_; rintro e w' ⟨rfl, rfl⟩) | (go_at_call 148; refine (l04Water_any _ _).mono ?_; rintro e w' ⟨rfl, rfl⟩))
    rw [E1.out]
    exact bodyPost_ret (v := .tuple #[.int .i64 level, .int .i64 0, .int .i64 0, .int .i64 0, .bool false]) (by simp [results, Tryd.results133, go_sem]) rfl ⟨rfl, (by repeat' (first | (with_reducible exact Below.refl _ _) | (with_reducible assumption) | (with_reducible refine Below.alloc ?_ ?_ _) | (with_reducible refine Below.setCell ?_ ?_ _) | (with_reducible refine Below.drew ?_) | (with_reducible refine below_drewN ?_ _) | (refine Below.trans ?_ (Below.mono (by with_reducible assumption) ?_)) | omega | (simp; done) | (simp; omega)))⟩
  cases h3 : inB l 0 1000000
  · have E1 := Lib.hid (evOn_bad (k := k) (o := o) (level := level) (room := room) (.inr (.inr h3)))
    go_enter Tryd.func133, Tryd.ntmps133
    go_wp2_with (first | (go_at_call 57; refine (l01In_any _ _ _ _).mono ?_; rintro e w' ⟨rfl, rfl⟩) | (go_at_call 148; refine (l04Water_any _ _).mono ?_; rintro e w' ⟨rfl, rfl⟩))
    rw [E1.out]
    exact bodyPost_ret (v := .tuple #[.int .i64 level, .int .i64 0, .int .i64 0, .int .i64 0, .bool false]) (by simp [results, Tryd.results133, go_sem]) rfl ⟨rfl, (by repeat' (first | (with_reducible exact Below.refl _ _) | (with_reducible assumption) | (with_reducible refine Below.alloc ?_ ?_ _) | (with_reducible refine Below.setCell ?_ ?_ _) | (with_reducible refine Below.drew ?_) | (with_reducible refine below_drewN ?_ _) | (refine Below.trans ?_ (Below.mono (by with_reducible assumption) ?_)) | omega | (simp; done) | (simp; omega)))⟩
  have e0 := evOn_good (k := k) (o := o) h1 h2 h3
  obtain ⟨r1, r2⟩ := inB_iff.1 h1
  obtain ⟨v1, v2⟩ := inB_iff.1 h2
  obtain ⟨l1, l2⟩ := inB_iff.1 h3
  by_cases ha : k = 1 ∧ o = 0
  · rw [if_pos ha] at e0
    have E1 := Lib.hid e0; clear e0
    obtain ⟨rfl, rfl⟩ := ha
    by_cases hm : l ≤ room - level
    all_goals
      go_enter Tryd.func133, Tryd.ntmps133
      go_wp2_with (first | (go_at_call 57; refine (l01In_any _ _ _ _).mono ?_; rintro e w' ⟨rfl, rfl⟩) | (go_at_call 148; refine (l04Water_any _ _).mono ?_; rintro e w' ⟨rfl, rfl⟩))
      have q1 : IntKind.i64.wrap (level + l) = level + l := IntWalk.i64_in _ (by omega)
      have q2 : IntKind.i64.wrap (l - l) = l - l := IntWalk.i64_in _ (by omega)
      have q3 : IntKind.i64.wrap (level + (room - level)) = level + (room - level) := IntWalk.i64_in _ (by omega)
      have q4 : IntKind.i64.wrap (l - (room - level)) = l - (room - level) := IntWalk.i64_in _ (by omega)
      go_quiet (fail)
      clear q1 q2 q3 q4
      go_wp2
      rw [E1.out]
    · have e1 : min l (room - level) = l := by omega
      rw [e1]
      exact bodyPost_ret (v := .tuple #[.int .i64 (level + l), .int .i64 (l), .int .i64 (0), .int .i64 (l - l), .bool true]) (by simp [results, Tryd.results133, go_sem]) rfl ⟨rfl, (by repeat' (first | (with_reducible exact Below.refl _ _) | (with_reducible assumption) | (with_reducible refine Below.alloc ?_ ?_ _) | (with_reducible refine Below.setCell ?_ ?_ _) | (with_reducible refine Below.drew ?_) | (with_reducible refine below_drewN ?_ _) | (refine Below.trans ?_ (Below.mono (by with_reducible assumption) ?_)) | omega | (simp; done) | (simp; omega)))⟩
    · have e1 : min l (room - level) = room - level := by omega
      rw [e1]
      exact bodyPost_ret (v := .tuple #[.int .i64 (level + (room - level)), .int .i64 (l), .int .i64 (0), .int .i64 (l - (room - level)), .bool true]) (by simp [results, Tryd.results133, go_sem]) rfl ⟨rfl, (by repeat' (first | (with_reducible exact Below.refl _ _) | (with_reducible assumption) | (with_reducible refine Below.alloc ?_ ?_ _) | (with_reducible refine Below.setCell ?_ ?_ _) | (with_reducible refine Below.drew ?_) | (with_reducible refine below_drewN ?_ _) | (refine Below.trans ?_ (Below.mono (by with_reducible assumption) ?_)) | omega | (simp; done) | (simp; omega)))⟩
  rw [if_neg ha] at e0
  by_cases hb : k = 2 ∧ (1 ≤ o ∧ o ≤ 999) ∧ l ≤ level
  · rw [if_pos hb] at e0
    have E1 := Lib.hid e0; clear e0 ha
    obtain ⟨rfl, ⟨o1, o2⟩, hl⟩ := hb
    have h9 : inB o 1 999 = true := inB_iff.2 ⟨o1, o2⟩
    go_enter Tryd.func133, Tryd.ntmps133
    go_wp2_with (first | (go_at_call 57; refine (l01In_any _ _ _ _).mono ?_; rintro e w' ⟨rfl, rfl⟩) | (go_at_call 148; refine (l04Water_any _ _).mono ?_; rintro e w' ⟨rfl, rfl⟩))
    have q1 : IntKind.i64.wrap (level - l) = level - l := IntWalk.i64_in _ (by omega)
    go_quiet (fail)
    clear q1
    go_wp2
    rw [E1.out]
    exact bodyPost_ret (v := .tuple #[.int .i64 (level - l), .int .i64 (0), .int .i64 (l), .int .i64 (0), .bool true]) (by simp [results, Tryd.results133, go_sem]) rfl ⟨rfl, (by repeat' (first | (with_reducible exact Below.refl _ _) | (with_reducible assumption) | (with_reducible refine Below.alloc ?_ ?_ _) | (with_reducible refine Below.setCell ?_ ?_ _) | (with_reducible refine Below.drew ?_) | (with_reducible refine below_drewN ?_ _) | (refine Below.trans ?_ (Below.mono (by with_reducible assumption) ?_)) | omega | (simp; done) | (simp; omega)))⟩
  rw [if_neg hb] at e0
  by_cases hd : k = 3 ∧ o = 0 ∧ l ≤ level
  · rw [if_pos hd] at e0
    have E1 := Lib.hid e0; clear e0 ha hb
    obtain ⟨rfl, rfl, hl⟩ := hd
    go_enter Tryd.func133, Tryd.ntmps133
    go_wp2_with (first | (go_at_call 57; refine (l01In_any _ _ _ _).mono ?_; rintro e w' ⟨rfl, rfl⟩) | (go_at_call 148; refine (l04Water_any _ _).mono ?_; rintro e w' ⟨rfl, rfl⟩))
    have q1 : IntKind.i64.wrap (level - l) = level - l := IntWalk.i64_in _ (by omega)
    go_quiet (fail)
    clear q1
    go_wp2
    rw [E1.out]
    exact bodyPost_ret (v := .tuple #[.int .i64 (level - l), .int .i64 (0), .int .i64 (0), .int .i64 (l), .bool true]) (by simp [results, Tryd.results133, go_sem]) rfl ⟨rfl, (by repeat' (first | (with_reducible exact Below.refl _ _) | (with_reducible assumption) | (with_reducible refine Below.alloc ?_ ?_ _) | (with_reducible refine Below.setCell ?_ ?_ _) | (with_reducible refine Below.drew ?_) | (with_reducible refine below_drewN ?_ _) | (refine Below.trans ?_ (Below.mono (by with_reducible assumption) ?_)) | omega | (simp; done) | (simp; omega)))⟩
  rw [if_neg hd] at e0
  have E1 := Lib.hid e0; clear e0
  by_cases k1 : k = 1
  · subst k1
    have o0 : (o == 0) = false := by simp; omega
    clear ha hb hd
    go_enter Tryd.func133, Tryd.ntmps133
    go_wp2_with (first | (go_at_call 57; refine (l01In_any _ _ _ _).mono ?_; rintro e w' ⟨rfl, rfl⟩) | (go_at_call 148; refine (l04Water_any _ _).mono ?_; rintro e w' ⟨rfl, rfl⟩))
    rw [E1.out]
    exact bodyPost_ret (v := .tuple #[.int .i64 (level), .int .i64 (0), .int .i64 (0), .int .i64 (0), .bool false]) (by simp [results, Tryd.results133, go_sem]) rfl ⟨rfl, (by repeat' (first | (with_reducible exact Below.refl _ _) | (with_reducible assumption) | (with_reducible refine Below.alloc ?_ ?_ _) | (with_reducible refine Below.setCell ?_ ?_ _) | (with_reducible refine Below.drew ?_) | (with_reducible refine below_drewN ?_ _) | (refine Below.trans ?_ (Below.mono (by with_reducible assumption) ?_)) | omega | (simp; done) | (simp; omega)))⟩
  by_cases k2 : k = 2
  · subst k2
    cases h9 : inB o 1 999
    · clear ha hb hd
      go_enter Tryd.func133, Tryd.ntmps133
      go_wp2_with (first | (go_at_call 57; refine (l01In_any _ _ _ _).mono ?_; rintro e w' ⟨rfl, rfl⟩) | (go_at_call 148; refine (l04Water_any _ _).mono ?_; rintro e w' ⟨rfl, rfl⟩))
      rw [E1.out]
      exact bodyPost_ret (v := .tuple #[.int .i64 (level), .int .i64 (0), .int .i64 (0), .int .i64 (0), .bool false]) (by simp [results, Tryd.results133, go_sem]) rfl ⟨rfl, (by repeat' (first | (with_reducible exact Below.refl _ _) | (with_reducible assumption) | (with_reducible refine Below.alloc ?_ ?_ _) | (with_reducible refine Below.setCell ?_ ?_ _) | (with_reducible refine Below.drew ?_) | (with_reducible refine below_drewN ?_ _) | (refine Below.trans ?_ (Below.mono (by with_reducible assumption) ?_)) | omega | (simp; done) | (simp; omega)))⟩
    · have hl : ¬ l ≤ level := fun h => hb ⟨rfl, inB_iff.1 h9, h⟩
      clear ha hb hd
      go_enter Tryd.func133, Tryd.ntmps133
      go_wp2_with (first | (go_at_call 57; refine (l01In_any _ _ _ _).mono ?_; rintro e w' ⟨rfl, rfl⟩) | (go_at_call 148; refine (l04Water_any _ _).mono ?_; rintro e w' ⟨rfl, rfl⟩))
      rw [E1.out]
      exact bodyPost_ret (v := .tuple #[.int .i64 (level), .int .i64 (0), .int .i64 (0), .int .i64 (0), .bool false]) (by simp [results, Tryd.results133, go_sem]) rfl ⟨rfl, (by repeat' (first | (with_reducible exact Below.refl _ _) | (with_reducible assumption) | (with_reducible refine Below.alloc ?_ ?_ _) | (with_reducible refine Below.setCell ?_ ?_ _) | (with_reducible refine Below.drew ?_) | (with_reducible refine below_drewN ?_ _) | (refine Below.trans ?_ (Below.mono (by with_reducible assumption) ?_)) | omega | (simp; done) | (simp; omega)))⟩
  have g1 : (k == 1) = false := by simp; omega
  have g2 : (k == 2) = false := by simp; omega
  by_cases k3 : k = 3
  · subst k3
    by_cases o0 : o = 0
    · subst o0
      have hl : ¬ l ≤ level := fun h => hd ⟨rfl, rfl, h⟩
      clear ha hb hd
      go_enter Tryd.func133, Tryd.ntmps133
      go_wp2_with (first | (go_at_call 57; refine (l01In_any _ _ _ _).mono ?_; rintro e w' ⟨rfl, rfl⟩) | (go_at_call 148; refine (l04Water_any _ _).mono ?_; rintro e w' ⟨rfl, rfl⟩))
      rw [E1.out]
      exact bodyPost_ret (v := .tuple #[.int .i64 (level), .int .i64 (0), .int .i64 (0), .int .i64 (0), .bool false]) (by simp [results, Tryd.results133, go_sem]) rfl ⟨rfl, (by repeat' (first | (with_reducible exact Below.refl _ _) | (with_reducible assumption) | (with_reducible refine Below.alloc ?_ ?_ _) | (with_reducible refine Below.setCell ?_ ?_ _) | (with_reducible refine Below.drew ?_) | (with_reducible refine below_drewN ?_ _) | (refine Below.trans ?_ (Below.mono (by with_reducible assumption) ?_)) | omega | (simp; done) | (simp; omega)))⟩
    · have o1 : (o == 0) = false := by simp; omega
      clear ha hb hd
      go_enter Tryd.func133, Tryd.ntmps133
      go_wp2_with (first | (go_at_call 57; refine (l01In_any _ _ _ _).mono ?_; rintro e w' ⟨rfl, rfl⟩) | (go_at_call 148; refine (l04Water_any _ _).mono ?_; rintro e w' ⟨rfl, rfl⟩))
      rw [E1.out]
      exact bodyPost_ret (v := .tuple #[.int .i64 (level), .int .i64 (0), .int .i64 (0), .int .i64 (0), .bool false]) (by simp [results, Tryd.results133, go_sem]) rfl ⟨rfl, (by repeat' (first | (with_reducible exact Below.refl _ _) | (with_reducible assumption) | (with_reducible refine Below.alloc ?_ ?_ _) | (with_reducible refine Below.setCell ?_ ?_ _) | (with_reducible refine Below.drew ?_) | (with_reducible refine below_drewN ?_ _) | (refine Below.trans ?_ (Below.mono (by with_reducible assumption) ?_)) | omega | (simp; done) | (simp; omega)))⟩
  have g3 : (k == 3) = false := by simp; omega
  clear ha hb hd k1 k2 k3
  go_enter Tryd.func133, Tryd.ntmps133
  go_wp2_with (first | (go_at_call 57; refine (l01In_any _ _ _ _).mono ?_; rintro e w' ⟨rfl, rfl⟩) | (go_at_call 148; refine (l04Water_any _ _).mono ?_; rintro e w' ⟨rfl, rfl⟩))
  rw [E1.out]
  exact bodyPost_ret (v := .tuple #[.int .i64 (level), .int .i64 (0), .int .i64 (0), .int .i64 (0), .bool false]) (by simp [results, Tryd.results133, go_sem]) rfl ⟨rfl, (by repeat' (first | (with_reducible exact Below.refl _ _) | (with_reducible assumption) | (with_reducible refine Below.alloc ?_ ?_ _) | (with_reducible refine Below.setCell ?_ ?_ _) | (with_reducible refine Below.drew ?_) | (with_reducible refine below_drewN ?_ _) | (refine Below.trans ?_ (Below.mono (by with_reducible assumption) ?_)) | omega | (simp; done) | (simp; omega)))⟩
end Go.Proofs.YtbkgofjajhplpaaDoor
