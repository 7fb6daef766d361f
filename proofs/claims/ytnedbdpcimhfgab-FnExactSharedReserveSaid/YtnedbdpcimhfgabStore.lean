/- Cisterns and stores. -/
import Derived.Test.YtnedbdpcimhfgabBase
import Derived.Test.YtnedbdpcimhfgabQueue
import Derived.Deep.RegionHeld3
namespace Go.Proofs.Ytnedbdpcimhfgab
open Go.RowKit
def cisOk (r l : Int) : Bool := inB r 1 1000000 && inB l 0 r
def storeOk (r l v : Int) : Bool := cisOk r l && inB v 0 r
def takeOut (r l n : Int) : Int × Int × Int := if cisOk r l && inB n 0 1000000 then (r, l - min n l, min n l) else (r, l, -1)
def usable (r l v : Int) : Int := if storeOk r l v then max 0 (l - v) else -1
def useWater (r l v n : Int) : Int × Int × Int × Int :=
  if storeOk r l v && inB n 0 1000000 then ((takeOut r l (min n (usable r l v))).1, (takeOut r l (min n (usable r l v))).2.1, v, (takeOut r l (min n (usable r l v))).2.2) else (r, l, v, -1)
theorem useWater_no {x y z n : Int} (h : storeOk x y z = false ∨ inB n 0 1000000 = false) : useWater x y z n = (x, y, z, -1) := by
  unfold useWater; rcases h with h | h <;> simp [h]
theorem useWater_yes {x y z n : Int} (h1 : storeOk x y z = true) (h2 : inB n 0 1000000 = true) : useWater x y z n = ((takeOut x y (min n (usable x y z))).1, (takeOut x y (min n (usable x y z))).2.1, z, (takeOut x y (min n (usable x y z))).2.2) := by
  unfold useWater; rw [h1, h2]; rfl
set_option maxHeartbeats 400000 in
theorem toCistern_any (x y : Int) (w : World) :
    Calls Try.prog 25 #[.agg #[.int .i64 x, .int .i64 y]] w fun e w' => e = .returned (.agg #[.int .i64 x, .int .i64 y]) ∧ ∃ o1 o2 o3 : Obj, w' = ((w.alloc o1).alloc o2).alloc o3 := by
  go_enter Try.func25, Try.ntmps25
  go_wp2
  exact bodyPost_ret (v := .agg #[.int .i64 x, .int .i64 y]) (by simp [results, Try.results25, go_sem]) rfl ⟨rfl, _, _, _, rfl⟩
set_option maxHeartbeats 400000 in
theorem toStore_any (x y z : Int) (w : World) :
    Calls Try.prog 16 #[.agg #[.int .i64 x, .int .i64 y, .int .i64 z]] w fun e w' => e = .returned (.agg #[.int .i64 x, .int .i64 y, .int .i64 z]) ∧ Below w.heap.size w w' := by
  go_enter Try.func16, Try.ntmps16
  go_wp2_with (go_at_call 25; refine (toCistern_any _ _ _).mono ?_; rintro e w1 ⟨rfl, o1, o2, o3, rfl⟩)
  exact bodyPost_ret (v := .agg #[.int .i64 x, .int .i64 y, .int .i64 z]) (by simp [results, Try.results16, go_sem]) rfl ⟨rfl, by repeat' (first | (with_reducible exact Below.refl _ _) | (with_reducible assumption) | (with_reducible refine Below.alloc ?_ ?_ _) | (with_reducible refine Below.setCell ?_ ?_ _) | (with_reducible refine Below.drew ?_) | (with_reducible refine below_drewN ?_ _) | (refine Below.trans ?_ (Below.mono (by with_reducible assumption) ?_)) | omega | (simp; done) | (simp; omega))⟩
set_option maxHeartbeats 400000 in
theorem eqCistern_same (x y : Int) (w : World) :
    Calls Try.prog 30 #[.agg #[.int .i64 x, .int .i64 y], .agg #[.int .i64 x, .int .i64 y]] w fun e w' => e = .returned (.bool true) ∧ Below w.heap.size w w' := by
  go_enter Try.func30, Try.ntmps30
  go_wp2
  go_ret
  exact ⟨rfl, by repeat' (first | (with_reducible exact Below.refl _ _) | (with_reducible assumption) | (with_reducible refine Below.alloc ?_ ?_ _) | (with_reducible refine Below.setCell ?_ ?_ _) | (with_reducible refine Below.drew ?_) | (with_reducible refine below_drewN ?_ _) | (refine Below.trans ?_ (Below.mono (by with_reducible assumption) ?_)) | omega | (simp; done) | (simp; omega))⟩
set_option maxHeartbeats 400000 in
theorem eqStore_same (x y z : Int) (w : World) :
    Calls Try.prog 22 #[.agg #[.int .i64 x, .int .i64 y, .int .i64 z], .agg #[.int .i64 x, .int .i64 y, .int .i64 z]] w fun e w' => e = .returned (.bool true) ∧ Below w.heap.size w w' := by
  go_enter Try.func22, Try.ntmps22
  go_wp2_with (go_at_call 30; refine (eqCistern_same _ _ _).mono ?_; rintro e w1 ⟨rfl, hb1⟩; obtain ⟨hc1, hf1⟩ := bcell hb1; have hz1 := hb1.size)
  go_ret
  exact ⟨rfl, by repeat' (first | (with_reducible exact Below.refl _ _) | (with_reducible assumption) | (with_reducible refine Below.alloc ?_ ?_ _) | (with_reducible refine Below.setCell ?_ ?_ _) | (with_reducible refine Below.drew ?_) | (with_reducible refine below_drewN ?_ _) | (refine Below.trans ?_ (Below.mono (by with_reducible assumption) ?_)) | omega | (simp; done) | (simp; omega))⟩
set_option maxHeartbeats 400000 in
theorem CisternOk_any (x y : Int) (w : World) :
    Calls Try.prog 26 #[.agg #[.int .i64 x, .int .i64 y]] w fun e w' => e = .returned (.bool (cisOk x y)) ∧ ∃ o : Obj, w' = w.alloc o := by
  unfold cisOk
  cases h1 : inB x 1 1000000
  all_goals
    go_enter Try.func26, Try.ntmps26
    go_wp2_with (go_at_call 17; refine (within_any _ _ _ _).mono ?_; rintro e w' ⟨rfl, rfl⟩)
    go_ret
    exact ⟨rfl, _, rfl⟩
set_option maxHeartbeats 400000 in
theorem StoreOk_any (x y z : Int) (w : World) :
    Calls Try.prog 18 #[.agg #[.int .i64 x, .int .i64 y, .int .i64 z]] w fun e w' => e = .returned (.bool (storeOk x y z)) ∧ ∃ o1 o2 : Obj, w' = (w.alloc o1).alloc o2 := by
  unfold storeOk
  cases h1 : cisOk x y
  all_goals
    go_enter Try.func18, Try.ntmps18
    go_wp2_with (first | (go_at_call 17; refine (within_any _ _ _ _).mono ?_; rintro e w' ⟨rfl, rfl⟩) | (go_at_call 26; refine (CisternOk_any _ _ _).mono ?_; rintro e w1 ⟨rfl, o1, rfl⟩))
    go_ret
    exact ⟨rfl, _, _, rfl⟩
set_option maxHeartbeats 400000 in
theorem CisternOkS_any (x y : Int) (w : World) :
    Calls Try.prog 24 #[.agg #[.int .i64 x, .int .i64 y]] w fun e w' => e = .returned (.bool (cisOk x y)) ∧ ∃ o : Obj, w' = w.alloc o := by
  unfold cisOk
  cases h1 : inB x 1 1000000
  all_goals
    go_enter Try.func24, Try.ntmps24
    go_wp2_with (go_at_call 23; refine (l01In_any _ _ _ _).mono ?_; rintro e w' ⟨rfl, rfl⟩)
    go_ret
    exact ⟨rfl, _, rfl⟩
set_option maxHeartbeats 400000 in
theorem StoreOkS_any (x y z : Int) (w : World) :
    Calls Try.prog 14 #[.agg #[.int .i64 x, .int .i64 y, .int .i64 z]] w fun e w' => e = .returned (.bool (storeOk x y z)) ∧ ∃ o1 o2 : Obj, w' = (w.alloc o1).alloc o2 := by
  unfold storeOk
  cases h1 : cisOk x y
  all_goals
    go_enter Try.func14, Try.ntmps14
    go_wp2_with (first | (go_at_call 23; refine (l01In_any _ _ _ _).mono ?_; rintro e w' ⟨rfl, rfl⟩) | (go_at_call 24; refine (CisternOkS_any _ _ _).mono ?_; rintro e w1 ⟨rfl, o1, rfl⟩))
    go_ret
    exact ⟨rfl, _, _, rfl⟩
end Go.Proofs.Ytnedbdpcimhfgab
