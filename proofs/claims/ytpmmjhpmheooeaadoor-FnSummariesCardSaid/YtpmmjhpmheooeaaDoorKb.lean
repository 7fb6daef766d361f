/- The law side's own helpers on slices of three-int structs: copy, compare, mark, look. Marks in a slice of events, and the look for them. The law side's own helpers on rights and slices of rights: copy, compare, mark, look. Cisterns and stores. The law side's own helpers on slices of stores: copy, compare, mark, look. Acts: the copy, ActOk. The law side's own helpers on slices of acts: copy, compare, look. -/
import Derived.Test.YtpmmjhpmheooeaaDoorKa
import Derived.Deep.RegionHeld3
namespace Go.Proofs.YtpmmjhpmheooeaaDoor
set_option linter.unusedSimpArgs false
set_option linter.unusedVariables false
open Go.RowKit
theorem madeT (n : Nat) : (madeCells #[Value.int .i64 0, .int .i64 0, .int .i64 0] (n * 3)).toList = t3s (List.replicate n ⟨0, 0, 0⟩) := by
  have h1 : ∀ m, t3s (List.replicate m ⟨0, 0, 0⟩) = List.replicate (m * 3) (Value.int .i64 0) := by
    intro m
    induction m with
    | zero => rfl
    | succ m ih => rw [List.replicate_succ, t3s_cons, ih, show (m + 1) * 3 = m * 3 + 1 + 1 + 1 by omega]; rfl
  rw [h1]
  unfold madeCells
  apply List.ext_getElem (by simp)
  intro i h2 h3
  have : i % 3 = 0 ∨ i % 3 = 1 ∨ i % 3 = 2 := by omega
  rcases this with e | e | e <;> simp [e]
def tkT (l : List T3) (k : Nat) : List T3 := l.take k ++ List.replicate (l.length - k) ⟨0, 0, 0⟩
theorem tkT_len (l : List T3) (k : Nat) (h : k ≤ l.length) : (tkT l k).length = l.length := by
  unfold tkT; rw [List.length_append, List.length_take, List.length_replicate, Nat.min_eq_left h]; omega
theorem tkT_succ {l : List T3} {k : Nat} {x : T3} (h : l[k]? = some x) : (tkT l k).set k x = tkT l (k + 1) := by
  obtain ⟨hk, rfl⟩ := List.getElem?_eq_some_iff.1 h
  unfold tkT
  have e : l.length - k = (l.length - (k + 1)) + 1 := by omega
  have e2 : (l.take k).length = k := by rw [List.length_take]; omega
  rw [e, List.replicate_succ, List.set_append_right _ _ (by omega), e2, Nat.sub_self, List.set_cons_zero, List.take_add_one, h, List.append_assoc]
  rfl
theorem tkT_all (l : List T3) : tkT l l.length = l := by simp [tkT]
theorem t3s_set : ∀ (l : List T3) (k : Nat) (t : T3), k < l.length → t3s (l.set k t) = (((t3s l).set (k * 3) (.int .i64 t.x)).set (k * 3 + 1) (.int .i64 t.y)).set (k * 3 + 2) (.int .i64 t.z)
  | [], k, t, h => by simp at h
  | s :: l, 0, t, h => by rw [List.set_cons_zero, t3s_cons, t3s_cons]; rfl
  | s :: l, k + 1, t, h => by
    rw [List.set_cons_succ, t3s_cons, t3s_cons, t3s_set l k t (by simpa using h), show (k + 1) * 3 = k * 3 + 1 + 1 + 1 by omega]
    rfl
/-- A store of one struct into an owned row. -/
theorem own_setT {w : World} {base : Nat} {e : TypeId} {c : Nat} {A : Option Addr} {l : List T3} (h : w.ownsRow base e 3 (.slice A l.length c) l.length (t3s l)) {k : Nat} (hk : k < l.length) :
    ∃ g, A = some ⟨g, 0, none⟩ ∧ base ≤ g ∧ g < w.heap.size ∧ (∀ j, w.frozen? ⟨g, j, none⟩ = false) ∧ (∃ t, l[k]? = some t ∧ w.cell? ⟨g, k * 3, none⟩ = some (.int .i64 t.x) ∧ w.cell? ⟨g, k * 3 + 1, none⟩ = some (.int .i64 t.y) ∧ w.cell? ⟨g, k * 3 + 2, none⟩ = some (.int .i64 t.z)) ∧
      ∀ t : T3, (((w.setCell ⟨g, k * 3, none⟩ (.int .i64 t.x)).setCell ⟨g, k * 3 + 1, none⟩ (.int .i64 t.y)).setCell ⟨g, k * 3 + 2, none⟩ (.int .i64 t.z)).ownsRow base e 3 (.slice A l.length c) l.length (t3s (l.set k t)) ∧
        w.grownBy (((w.setCell ⟨g, k * 3, none⟩ (.int .i64 t.x)).setCell ⟨g, k * 3 + 1, none⟩ (.int .i64 t.y)).setCell ⟨g, k * 3 + 2, none⟩ (.int .i64 t.z)) (some g) := by
  rcases h.2 with ⟨_, h2⟩ | ⟨g, cap, cur, hv, hg, hh, hnc, hcm, hcs, ht⟩
  · omega
  · simp only [Value.slice.injEq, true_and] at hv
    obtain ⟨rfl, rfl⟩ := hv
    have hlt : g < w.heap.size := (Array.getElem?_eq_some_iff.1 hh).1
    have hx : l[k]? = some l[k] := List.getElem?_eq_getElem hk
    have hg3 := t3s_get hx
    refine ⟨g, rfl, hg, hlt, fun j => h.frozenAt j, ⟨l[k], hx, (h.cellAt _ (by omega)).trans hg3.1, (h.cellAt _ (by omega)).trans hg3.2.1, (h.cellAt _ (by omega)).trans hg3.2.2⟩, fun t => ?_⟩
    have s0 := h.stored (k * 3) (.int .i64 t.x)
    have s1 := s0.1.stored (k * 3 + 1) (.int .i64 t.y)
    have s2 := s1.1.stored (k * 3 + 2) (.int .i64 t.z)
    rw [t3s_set l k t hk]
    exact ⟨s2.1, grownBy_trans (grownBy_trans s0.2 s1.2) s2.2⟩
end Go.Proofs.YtpmmjhpmheooeaaDoor

namespace Go.Proofs.YtpmmjhpmheooeaaDoor
set_option linter.unusedSimpArgs false
set_option linter.unusedVariables false
open Go.RowKit
def tm (k : Nat) : T3 := ⟨(k : Int), (k : Int) + 1, (k : Int) + 2⟩
def marksT (k n : Nat) : List T3 := (List.range n).map fun i => tm (k + 3 * i)
theorem marksT_len (k n : Nat) : (marksT k n).length = n := by simp [marksT]
theorem marksT_succ (k n : Nat) : marksT k (n + 1) = marksT k n ++ [tm (k + 3 * n)] := by
  unfold marksT; rw [List.range_succ]; simp
theorem marksT_get (k n j : Nat) (h : j < n) : (marksT k n)[j]? = some (tm (k + 3 * j)) := by
  unfold marksT; rw [List.getElem?_map, List.getElem?_range h]; rfl
def mkT (l : List T3) (k i : Nat) : List T3 := marksT k i ++ l.drop i
theorem mkT_len (l : List T3) (k i : Nat) (h : i ≤ l.length) : (mkT l k i).length = l.length := by simp [mkT, marksT_len]; omega
theorem mkT_all (l : List T3) (k : Nat) : mkT l k l.length = marksT k l.length := by simp [mkT]
theorem mkT_succ (l : List T3) (k i : Nat) (h : i < l.length) : (mkT l k i).set i (tm (k + 3 * i)) = mkT l k (i + 1) := by
  unfold mkT
  rw [List.set_append_right _ _ (by rw [marksT_len]; omega), marksT_len, Nat.sub_self, List.drop_eq_getElem_cons h, List.set_cons_zero, marksT_succ, List.append_assoc]
  rfl
end Go.Proofs.YtpmmjhpmheooeaaDoor

namespace Go.Proofs.YtpmmjhpmheooeaaDoor
set_option linter.unusedSimpArgs false
set_option linter.unusedVariables false
open Go.RowKit
set_option maxRecDepth 20000
end Go.Proofs.YtpmmjhpmheooeaaDoor

namespace Go.Proofs.YtpmmjhpmheooeaaDoor
set_option linter.unusedSimpArgs false
set_option linter.unusedVariables false
open Go.RowKit
def cisOk (r l : Int) : Bool := inB r 1 1000000 && inB l 0 r
def storeOk (r l v : Int) : Bool := cisOk r l && inB v 0 r
def takeOut (r l n : Int) : Int × Int × Int := if cisOk r l && inB n 0 1000000 then (r, l - min n l, min n l) else (r, l, -1)
def usable (r l v : Int) : Int := if storeOk r l v then max 0 (l - v) else -1
def useWater (r l v n : Int) : Int × Int × Int × Int :=
  if storeOk r l v && inB n 0 1000000 then ((takeOut r l (min n (usable r l v))).1, (takeOut r l (min n (usable r l v))).2.1, v, (takeOut r l (min n (usable r l v))).2.2) else (r, l, v, -1)
theorem useWater_no {x y z n : Int} (h : storeOk x y z = false ∨ inB n 0 1000000 = false) : useWater x y z n = (x, y, z, -1) := by
  unfold useWater; rcases h with h | h <;> simp [h]
theorem useWater_yes {x y z n : Int} (h1 : storeOk x y z = true) (h2 : inB n 0 1000000 = true) : useWater x y z n = ((takeOut x y (min n (usable x y z))).1, (takeOut x y (min n (usable x y z))).2.1, z, (takeOut x y (min n (usable x y z))).2.2) := by
  unfold useWater; rw [h1, h2]; rfl
end Go.Proofs.YtpmmjhpmheooeaaDoor

namespace Go.Proofs.YtpmmjhpmheooeaaDoor
set_option linter.unusedSimpArgs false
set_option linter.unusedVariables false
open Go.RowKit
set_option maxRecDepth 20000
end Go.Proofs.YtpmmjhpmheooeaaDoor

namespace Go.Proofs.YtpmmjhpmheooeaaDoor
set_option linter.unusedSimpArgs false
set_option linter.unusedVariables false
open Go.RowKit
def actOk (k a b : Int) : Bool :=
  if k = 1 ∨ k = 3 then inB a 0 1000 && (b == 0)
  else if k = 2 then inB a 1 99 && inB b 0 1000
  else if k = 4 then inB a 1 99 && inB b 1 99
  else if k = 5 then inB a 1 99 && inB b 1 98
  else if k = 6 then inB a 1 99 && (b == 0)
  else false
set_option maxHeartbeats 1600000 in
theorem ActOkS_any (x y z : Int) (w : World) :
    Calls Tryd.prog 53 #[.agg #[.int .i64 x, .int .i64 y, .int .i64 z]] w fun e w' => e = .returned (.bool (actOk x y z)) ∧ Below w.heap.size w w' := by
  by_cases h1 : x = 1 ∨ x = 3
  · have e1 : actOk x y z = (inB y 0 1000 && (z == 0)) := by unfold actOk; rw [if_pos h1]
    have E1 := Lib.hid e1; clear e1
    rcases h1 with rfl | rfl
    all_goals
      cases hi : inB y 0 1000
      all_goals
        go_enter Tryd.func53, Tryd.ntmps53
        go_wp2_with (go_at_call 25; refine (l01In_any _ _ _ _).mono ?_; rintro e w' ⟨rfl, rfl⟩)
        go_ret
        exact ⟨by rw [E1.out, hi]; rfl, (Below.refl _ _).alloc (Nat.le_refl _) _⟩
  by_cases h2 : x = 2
  · have e1 : actOk x y z = (inB y 1 99 && inB z 0 1000) := by unfold actOk; rw [if_neg h1, if_pos h2]
    have E1 := Lib.hid e1; clear e1 h1
    subst h2
    cases hi : inB y 1 99
    all_goals
      go_enter Tryd.func53, Tryd.ntmps53
      go_wp2_with (go_at_call 25; refine (l01In_any _ _ _ _).mono ?_; rintro e w' ⟨rfl, rfl⟩)
      go_ret
      exact ⟨by rw [E1.out, hi]; rfl, (Below.refl _ _).alloc (Nat.le_refl _) _⟩
  by_cases h4 : x = 4
  · have e1 : actOk x y z = (inB y 1 99 && inB z 1 99) := by unfold actOk; rw [if_neg h1, if_neg h2, if_pos h4]
    have E1 := Lib.hid e1; clear e1 h1 h2
    subst h4
    cases hi : inB y 1 99
    all_goals
      go_enter Tryd.func53, Tryd.ntmps53
      go_wp2_with (go_at_call 25; refine (l01In_any _ _ _ _).mono ?_; rintro e w' ⟨rfl, rfl⟩)
      go_ret
      exact ⟨by rw [E1.out, hi]; rfl, (Below.refl _ _).alloc (Nat.le_refl _) _⟩
  by_cases h5 : x = 5
  · have e1 : actOk x y z = (inB y 1 99 && inB z 1 98) := by unfold actOk; rw [if_neg h1, if_neg h2, if_neg h4, if_pos h5]
    have E1 := Lib.hid e1; clear e1 h1 h2 h4
    subst h5
    cases hi : inB y 1 99
    all_goals
      go_enter Tryd.func53, Tryd.ntmps53
      go_wp2_with (go_at_call 25; refine (l01In_any _ _ _ _).mono ?_; rintro e w' ⟨rfl, rfl⟩)
      go_ret
      exact ⟨by rw [E1.out, hi]; rfl, (Below.refl _ _).alloc (Nat.le_refl _) _⟩
  by_cases h6 : x = 6
  · have e1 : actOk x y z = (inB y 1 99 && (z == 0)) := by unfold actOk; rw [if_neg h1, if_neg h2, if_neg h4, if_neg h5, if_pos h6]
    have E1 := Lib.hid e1; clear e1 h1 h2 h4 h5
    subst h6
    cases hi : inB y 1 99
    all_goals
      go_enter Tryd.func53, Tryd.ntmps53
      go_wp2_with (go_at_call 25; refine (l01In_any _ _ _ _).mono ?_; rintro e w' ⟨rfl, rfl⟩)
      go_ret
      exact ⟨by rw [E1.out, hi]; rfl, (Below.refl _ _).alloc (Nat.le_refl _) _⟩
  have e1 : actOk x y z = false := by unfold actOk; rw [if_neg h1, if_neg h2, if_neg h4, if_neg h5, if_neg h6]
  have E1 := Lib.hid e1; clear e1
  have g1 : (x == 1) = false := by simp; omega
  have g3 : (x == 3) = false := by simp; omega
  have g2 : (x == 2) = false := by simp; omega
  have g4 : (x == 4) = false := by simp; omega
  have g5 : (x == 5) = false := by simp; omega
  have g6 : (x == 6) = false := by simp; omega
  clear h1 h2 h4 h5 h6
  go_enter Tryd.func53, Tryd.ntmps53
  go_wp2
  go_ret
  exact ⟨by rw [E1.out]; rfl, (Below.refl _ _).alloc (Nat.le_refl _) _⟩
set_option maxHeartbeats 1600000 in
theorem ActOk_any (x y z : Int) (w : World) :
    Calls Tryd.prog 34 #[.agg #[.int .i64 x, .int .i64 y, .int .i64 z]] w fun e w' => e = .returned (.bool (actOk x y z)) ∧ Below w.heap.size w w' := by
  by_cases h1 : x = 1 ∨ x = 3
  · have e1 : actOk x y z = (inB y 0 1000 && (z == 0)) := by unfold actOk; rw [if_pos h1]
    have E1 := Lib.hid e1; clear e1
    rcases h1 with rfl | rfl
    all_goals
      cases hi : inB y 0 1000
      all_goals
        go_enter Tryd.func34, Tryd.ntmps34
        go_wp2_with (go_at_call 41; refine (within_any _ _ _ _).mono ?_; rintro e w' ⟨rfl, rfl⟩)
        go_ret
        exact ⟨by rw [E1.out, hi]; rfl, (Below.refl _ _).alloc (Nat.le_refl _) _⟩
  by_cases h2 : x = 2
  · have e1 : actOk x y z = (inB y 1 99 && inB z 0 1000) := by unfold actOk; rw [if_neg h1, if_pos h2]
    have E1 := Lib.hid e1; clear e1 h1
    subst h2
    cases hi : inB y 1 99
    all_goals
      go_enter Tryd.func34, Tryd.ntmps34
      go_wp2_with (go_at_call 41; refine (within_any _ _ _ _).mono ?_; rintro e w' ⟨rfl, rfl⟩)
      go_ret
      exact ⟨by rw [E1.out, hi]; rfl, (Below.refl _ _).alloc (Nat.le_refl _) _⟩
  by_cases h4 : x = 4
  · have e1 : actOk x y z = (inB y 1 99 && inB z 1 99) := by unfold actOk; rw [if_neg h1, if_neg h2, if_pos h4]
    have E1 := Lib.hid e1; clear e1 h1 h2
    subst h4
    cases hi : inB y 1 99
    all_goals
      go_enter Tryd.func34, Tryd.ntmps34
      go_wp2_with (go_at_call 41; refine (within_any _ _ _ _).mono ?_; rintro e w' ⟨rfl, rfl⟩)
      go_ret
      exact ⟨by rw [E1.out, hi]; rfl, (Below.refl _ _).alloc (Nat.le_refl _) _⟩
  by_cases h5 : x = 5
  · have e1 : actOk x y z = (inB y 1 99 && inB z 1 98) := by unfold actOk; rw [if_neg h1, if_neg h2, if_neg h4, if_pos h5]
    have E1 := Lib.hid e1; clear e1 h1 h2 h4
    subst h5
    cases hi : inB y 1 99
    all_goals
      go_enter Tryd.func34, Tryd.ntmps34
      go_wp2_with (go_at_call 41; refine (within_any _ _ _ _).mono ?_; rintro e w' ⟨rfl, rfl⟩)
      go_ret
      exact ⟨by rw [E1.out, hi]; rfl, (Below.refl _ _).alloc (Nat.le_refl _) _⟩
  by_cases h6 : x = 6
  · have e1 : actOk x y z = (inB y 1 99 && (z == 0)) := by unfold actOk; rw [if_neg h1, if_neg h2, if_neg h4, if_neg h5, if_pos h6]
    have E1 := Lib.hid e1; clear e1 h1 h2 h4 h5
    subst h6
    cases hi : inB y 1 99
    all_goals
      go_enter Tryd.func34, Tryd.ntmps34
      go_wp2_with (go_at_call 41; refine (within_any _ _ _ _).mono ?_; rintro e w' ⟨rfl, rfl⟩)
      go_ret
      exact ⟨by rw [E1.out, hi]; rfl, (Below.refl _ _).alloc (Nat.le_refl _) _⟩
  have e1 : actOk x y z = false := by unfold actOk; rw [if_neg h1, if_neg h2, if_neg h4, if_neg h5, if_neg h6]
  have E1 := Lib.hid e1; clear e1
  have g1 : (x == 1) = false := by simp; omega
  have g3 : (x == 3) = false := by simp; omega
  have g2 : (x == 2) = false := by simp; omega
  have g4 : (x == 4) = false := by simp; omega
  have g5 : (x == 5) = false := by simp; omega
  have g6 : (x == 6) = false := by simp; omega
  clear h1 h2 h4 h5 h6
  go_enter Tryd.func34, Tryd.ntmps34
  go_wp2
  go_ret
  exact ⟨by rw [E1.out]; rfl, (Below.refl _ _).alloc (Nat.le_refl _) _⟩
end Go.Proofs.YtpmmjhpmheooeaaDoor

namespace Go.Proofs.YtpmmjhpmheooeaaDoor
set_option linter.unusedSimpArgs false
set_option linter.unusedVariables false
open Go.RowKit
set_option maxRecDepth 20000
theorem eqAct_same (x y z : Int) (w : World) :
    Calls Tryd.prog 9 #[.agg #[.int .i64 x, .int .i64 y, .int .i64 z], .agg #[.int .i64 x, .int .i64 y, .int .i64 z]] w fun e w' => e = .returned (.bool true) ∧ Below w.heap.size w w' := by
  have d1 : (x != x) = false := by simp
  have d2 : (y != y) = false := by simp
  have d3 : (z != z) = false := by simp
  go_enter Tryd.func9, Tryd.ntmps9
  go_wp2
  go_ret
  exact ⟨rfl, by exact tacT⟩
end Go.Proofs.YtpmmjhpmheooeaaDoor
