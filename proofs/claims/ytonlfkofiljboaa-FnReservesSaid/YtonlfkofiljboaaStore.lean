/- Cisterns and stores. -/
import Derived.Test.YtonlfkofiljboaaBase
import Derived.Test.YtonlfkofiljboaaQueue
import Derived.Deep.RegionHeld3
namespace Go.Proofs.Ytonlfkofiljboaa
open Go.RowKit
def cisOk (r l : Int) : Bool := inB r 1 1000000 && inB l 0 r
def storeOk (r l v : Int) : Bool := cisOk r l && inB v 0 r
def takeOut (r l n : Int) : Int × Int × Int := if cisOk r l && inB n 0 1000000 then (r, l - min n l, min n l) else (r, l, -1)
def usable (r l v : Int) : Int := if storeOk r l v then max 0 (l - v) else -1
def useWater (r l v n : Int) : Int × Int × Int × Int :=
  if storeOk r l v && inB n 0 1000000 then ((takeOut r l (min n (usable r l v))).1, (takeOut r l (min n (usable r l v))).2.1, v, (takeOut r l (min n (usable r l v))).2.2) else (r, l, v, -1)
theorem useWater_no {x y z n : Int} (h : storeOk x y z = false ∨ inB n 0 1000000 = false) : useWater x y z n = (x, y, z, -1) := by
  unfold useWater; rcases h with h | h <;> simp [h]
theorem useWater_yes {x y z n : Int} (h1 : storeOk x y z = true) (h2 : inB n 0 1000000 = true) : useWater x y z n = ((takeOut x y (min n (usable x y z))).1, (takeOut x y (min n (usable x y z))).2.1, z, (takeOut x y (min n (usable x y z))).2.2) := by
  unfold useWater; rw [h1, h2]; rfl
set_option maxHeartbeats 400000 in
theorem CisternOk_any (x y : Int) (w : World) :
    Calls Try.prog 69 #[.agg #[.int .i64 x, .int .i64 y]] w fun e w' => e = .returned (.bool (cisOk x y)) ∧ ∃ o : Obj, w' = w.alloc o := by
  unfold cisOk
  cases h1 : inB x 1 1000000
  all_goals
    go_enter Try.func69, Try.ntmps69
    go_wp2_with (go_at_call 54; refine (within_any _ _ _ _).mono ?_; rintro e w' ⟨rfl, rfl⟩)
    go_ret
    exact ⟨rfl, _, rfl⟩
set_option maxHeartbeats 400000 in
theorem StoreOk_any (x y z : Int) (w : World) :
    Calls Try.prog 30 #[.agg #[.int .i64 x, .int .i64 y, .int .i64 z]] w fun e w' => e = .returned (.bool (storeOk x y z)) ∧ ∃ o1 o2 : Obj, w' = (w.alloc o1).alloc o2 := by
  unfold storeOk
  cases h1 : cisOk x y
  all_goals
    go_enter Try.func30, Try.ntmps30
    go_wp2_with (first | (go_at_call 54; refine (within_any _ _ _ _).mono ?_; rintro e w' ⟨rfl, rfl⟩) | (go_at_call 69; refine (CisternOk_any _ _ _).mono ?_; rintro e w1 ⟨rfl, o1, rfl⟩))
    go_ret
    exact ⟨rfl, _, _, rfl⟩
set_option maxHeartbeats 400000 in
theorem Usable_any (x y z : Int) (w : World) :
    Calls Try.prog 25 #[.agg #[.int .i64 x, .int .i64 y, .int .i64 z]] w fun e w' => e = .returned (.int .i64 (usable x y z)) ∧ ∃ o1 o2 o3 : Obj, w' = ((w.alloc o1).alloc o2).alloc o3 := by
  cases h1 : storeOk x y z
  · have E1 : Hid (usable x y z = -1) := by unfold usable; rw [h1]; rfl
    go_enter Try.func25, Try.ntmps25
    go_wp2_with (go_at_call 30; refine (StoreOk_any _ _ _ _).mono ?_; rintro e w1 ⟨rfl, o1, o2, rfl⟩)
    go_ret
    exact ⟨ret_int E1.out.symm, _, _, _, rfl⟩
  · have e1 : usable x y z = max 0 (y - z) := by unfold usable; rw [h1]; rfl
    have hh := h1
    unfold storeOk cisOk inB at hh
    simp only [Bool.and_eq_true, decide_eq_true_eq] at hh
    obtain ⟨⟨⟨a1, a2⟩, a3, a4⟩, a5, a6⟩ := hh
    by_cases hm : 0 < y - z
    · have E1 := Lib.hid (e1.trans (show max 0 (y - z) = y - z by omega)); clear e1
      go_enter Try.func25, Try.ntmps25
      go_wp2_with (go_at_call 30; refine (StoreOk_any _ _ _ _).mono ?_; rintro e w1 ⟨rfl, o1, o2, rfl⟩)
      go_ret
      exact ⟨ret_int E1.out.symm, _, _, _, rfl⟩
    · have E1 := Lib.hid (e1.trans (show max 0 (y - z) = 0 by omega)); clear e1
      go_enter Try.func25, Try.ntmps25
      go_wp2_with (go_at_call 30; refine (StoreOk_any _ _ _ _).mono ?_; rintro e w1 ⟨rfl, o1, o2, rfl⟩)
      go_ret
      exact ⟨ret_int E1.out.symm, _, _, _, rfl⟩
set_option maxHeartbeats 800000 in
theorem TakeOut_any (x y n : Int) (w : World) :
    Calls Try.prog 65 #[.agg #[.int .i64 x, .int .i64 y], .int .i64 n] w fun e w' => e = .returned (.tuple #[.agg #[.int .i64 (takeOut x y n).1, .int .i64 (takeOut x y n).2.1], .int .i64 (takeOut x y n).2.2]) ∧ ∃ o1 o2 o3 : Obj, w' = ((w.alloc o1).alloc o2).alloc o3 := by
  cases h1 : cisOk x y
  · have E1 : Hid (takeOut x y n = (x, y, -1)) := by unfold takeOut; rw [h1]; rfl
    go_enter Try.func65, Try.ntmps65
    go_wp2_with (first | (go_at_call 69; refine (CisternOk_any _ _ _).mono ?_; rintro e w1 ⟨rfl, o1, rfl⟩))
    rw [E1.out]
    exact bodyPost_ret (v := .tuple #[.agg #[.int .i64 x, .int .i64 y], .int .i64 (-1)]) (by simp [results, Try.results65, go_sem]) rfl ⟨rfl, _, _, _, rfl⟩
  cases h2 : inB n 0 1000000
  · have e1 : takeOut x y n = (x, y, -1) := by unfold takeOut; rw [h2]; simp
    have E1 := Lib.hid e1; clear e1
    go_enter Try.func65, Try.ntmps65
    go_wp2_with (first | (go_at_call 54; refine (within_any _ _ _ _).mono ?_; rintro e w' ⟨rfl, rfl⟩) | (go_at_call 69; refine (CisternOk_any _ _ _).mono ?_; rintro e w1 ⟨rfl, o1, rfl⟩))
    rw [E1.out]
    exact bodyPost_ret (v := .tuple #[.agg #[.int .i64 x, .int .i64 y], .int .i64 (-1)]) (by simp [results, Try.results65, go_sem]) rfl ⟨rfl, _, _, _, rfl⟩
  have e1 : takeOut x y n = (x, y - min n y, min n y) := by unfold takeOut; rw [h1, h2]; rfl
  have hh := h1
  unfold cisOk inB at hh
  simp only [Bool.and_eq_true, decide_eq_true_eq] at hh
  obtain ⟨⟨a1, a2⟩, a3, a4⟩ := hh
  obtain ⟨n1, n2⟩ := inB_iff.1 h2
  by_cases hm : n ≤ y
  · have E1 : Hid (takeOut x y n = (x, y - n, n)) := by rw [show min n y = n by omega] at e1; exact e1
    clear e1
    go_enter Try.func65, Try.ntmps65
    go_wp2_with (first | (go_at_call 54; refine (within_any _ _ _ _).mono ?_; rintro e w' ⟨rfl, rfl⟩) | (go_at_call 69; refine (CisternOk_any _ _ _).mono ?_; rintro e w1 ⟨rfl, o1, rfl⟩))
    rw [E1.out]
    exact bodyPost_ret (v := .tuple #[.agg #[.int .i64 x, .int .i64 (y - n)], .int .i64 n]) (by simp [results, Try.results65, go_sem]) rfl ⟨rfl, _, _, _, rfl⟩
  · have E1 : Hid (takeOut x y n = (x, y - y, y)) := by rw [show min n y = y by omega] at e1; exact e1
    clear e1
    go_enter Try.func65, Try.ntmps65
    go_wp2_with (first | (go_at_call 54; refine (within_any _ _ _ _).mono ?_; rintro e w' ⟨rfl, rfl⟩) | (go_at_call 69; refine (CisternOk_any _ _ _).mono ?_; rintro e w1 ⟨rfl, o1, rfl⟩))
    rw [E1.out]
    exact bodyPost_ret (v := .tuple #[.agg #[.int .i64 x, .int .i64 (y - y)], .int .i64 y]) (by simp [results, Try.results65, go_sem]) rfl ⟨rfl, _, _, _, rfl⟩
set_option maxHeartbeats 800000 in
theorem UseWater_any (x y z n : Int) (w : World) :
    Calls Try.prog 26 #[.agg #[.int .i64 x, .int .i64 y, .int .i64 z], .int .i64 n] w fun e w' => e = .returned (.tuple #[.agg #[.int .i64 (useWater x y z n).1, .int .i64 (useWater x y z n).2.1, .int .i64 (useWater x y z n).2.2.1], .int .i64 (useWater x y z n).2.2.2]) ∧ Below w.heap.size w w' := by
  cases h1 : storeOk x y z
  · have E1 := Lib.hid (useWater_no (n := n) (.inl h1))
    go_enter Try.func26, Try.ntmps26
    go_wp2_with (first | (go_at_call 30; refine (StoreOk_any _ _ _ _).mono ?_; rintro e w1 ⟨rfl, o1, o2, rfl⟩))
    rw [E1.out]
    exact bodyPost_ret (v := .tuple #[.agg #[.int .i64 x, .int .i64 y, .int .i64 z], .int .i64 (-1)]) (by simp [results, Try.results26, go_sem]) rfl ⟨rfl, by repeat' (first | (with_reducible exact Below.refl _ _) | (with_reducible assumption) | (with_reducible refine Below.alloc ?_ ?_ _) | (with_reducible refine Below.setCell ?_ ?_ _) | (with_reducible refine Below.drew ?_) | (with_reducible refine below_drewN ?_ _) | (refine Below.trans ?_ (Below.mono (by with_reducible assumption) ?_)) | omega | (simp; done) | (simp; omega))⟩
  cases h2 : inB n 0 1000000
  · have E1 := Lib.hid (useWater_no (x := x) (y := y) (z := z) (.inr h2))
    go_enter Try.func26, Try.ntmps26
    go_wp2_with (first | (go_at_call 30; refine (StoreOk_any _ _ _ _).mono ?_; rintro e w1 ⟨rfl, o1, o2, rfl⟩) | (go_at_call 54; refine (within_any _ _ _ _).mono ?_; rintro e w' ⟨rfl, rfl⟩))
    rw [E1.out]
    exact bodyPost_ret (v := .tuple #[.agg #[.int .i64 x, .int .i64 y, .int .i64 z], .int .i64 (-1)]) (by simp [results, Try.results26, go_sem]) rfl ⟨rfl, by repeat' (first | (with_reducible exact Below.refl _ _) | (with_reducible assumption) | (with_reducible refine Below.alloc ?_ ?_ _) | (with_reducible refine Below.setCell ?_ ?_ _) | (with_reducible refine Below.drew ?_) | (with_reducible refine below_drewN ?_ _) | (refine Below.trans ?_ (Below.mono (by with_reducible assumption) ?_)) | omega | (simp; done) | (simp; omega))⟩
  have E1 := Lib.hid (useWater_yes h1 h2)
  by_cases hm : n ≤ usable x y z
  · have em : min n (usable x y z) = n := by omega
    have E2 := Lib.hid em; clear em
    go_enter Try.func26, Try.ntmps26
    go_wp2_with (first | (go_at_call 30; refine (StoreOk_any _ _ _ _).mono ?_; rintro e w1 ⟨rfl, o1, o2, rfl⟩) | (go_at_call 54; refine (within_any _ _ _ _).mono ?_; rintro e w' ⟨rfl, rfl⟩))
    go_region_held3 (fun w' => w'.cell? ⟨w.heap.size, 0, none⟩ = some (.int .i64 x) ∧ w'.cell? ⟨w.heap.size, 1, none⟩ = some (.int .i64 y) ∧ w'.cell? ⟨w.heap.size, 2, none⟩ = some (.int .i64 z)) (simp [go_sem, World.cell?_alloc_past]) (first
      | (go_at_call 25; refine (Usable_any _ _ _ _).mono ?_; rintro e w1 ⟨rfl, o3, o4, o5, rfl⟩)
      | (go_at_call 65; refine (TakeOut_any _ _ _ _).mono ?_; rintro e w1 ⟨rfl, o6, o7, o8, rfl⟩))
    all_goals
      go_wp2
      rw [E1.out, E2.out]
      exact bodyPost_ret (v := .tuple #[.agg #[.int .i64 (takeOut x y n).1, .int .i64 (takeOut x y n).2.1, .int .i64 z], .int .i64 (takeOut x y n).2.2]) (by simp [results, Try.results26, go_sem]) rfl ⟨rfl, by repeat' (first | (with_reducible exact Below.refl _ _) | (with_reducible assumption) | (with_reducible refine Below.alloc ?_ ?_ _) | (with_reducible refine Below.setCell ?_ ?_ _) | (with_reducible refine Below.drew ?_) | (with_reducible refine below_drewN ?_ _) | (refine Below.trans ?_ (Below.mono (by with_reducible assumption) ?_)) | omega | (simp; done) | (simp; omega))⟩
  · have em : min n (usable x y z) = (usable x y z) := by omega
    have E2 := Lib.hid em; clear em
    go_enter Try.func26, Try.ntmps26
    go_wp2_with (first | (go_at_call 30; refine (StoreOk_any _ _ _ _).mono ?_; rintro e w1 ⟨rfl, o1, o2, rfl⟩) | (go_at_call 54; refine (within_any _ _ _ _).mono ?_; rintro e w' ⟨rfl, rfl⟩))
    go_region_held3 (fun w' => w'.cell? ⟨w.heap.size, 0, none⟩ = some (.int .i64 x) ∧ w'.cell? ⟨w.heap.size, 1, none⟩ = some (.int .i64 y) ∧ w'.cell? ⟨w.heap.size, 2, none⟩ = some (.int .i64 z)) (simp [go_sem, World.cell?_alloc_past]) (first
      | (go_at_call 25; refine (Usable_any _ _ _ _).mono ?_; rintro e w1 ⟨rfl, o3, o4, o5, rfl⟩)
      | (go_at_call 65; refine (TakeOut_any _ _ _ _).mono ?_; rintro e w1 ⟨rfl, o6, o7, o8, rfl⟩))
    all_goals
      go_wp2
      rw [E1.out, E2.out]
      exact bodyPost_ret (v := .tuple #[.agg #[.int .i64 (takeOut x y (usable x y z)).1, .int .i64 (takeOut x y (usable x y z)).2.1, .int .i64 z], .int .i64 (takeOut x y (usable x y z)).2.2]) (by simp [results, Try.results26, go_sem]) rfl ⟨rfl, by repeat' (first | (with_reducible exact Below.refl _ _) | (with_reducible assumption) | (with_reducible refine Below.alloc ?_ ?_ _) | (with_reducible refine Below.setCell ?_ ?_ _) | (with_reducible refine Below.drew ?_) | (with_reducible refine below_drewN ?_ _) | (refine Below.trans ?_ (Below.mono (by with_reducible assumption) ?_)) | omega | (simp; done) | (simp; omega))⟩
end Go.Proofs.Ytonlfkofiljboaa
