/- Texts of the proof, joined: Act, To3A, App, Event. -/
import Derived.Test.YtpmmjhpmheooeaaGreatDoorP0
import Derived.Test.YtpmmjhpmheooeaaGreatDoorP1
import Derived.Test.YtpmmjhpmheooeaaGreatDoorP3
import Derived.Test.YtpmmjhpmheooeaaGreatDoorProg
namespace Go.Proofs.YtpmmjhpmheooeaaGreatDoor
set_option linter.unusedSimpArgs false
set_option linter.unusedVariables false
section
open Go.RowKit
def actOk (k a b : Int) : Bool :=
 if k = 1 ∨ k = 3 then inB a 0 1000 && (b == 0)
 else if k = 2 then inB a 1 99 && inB b 0 1000
 else if k = 4 then inB a 1 99 && inB b 1 99
 else if k = 5 then inB a 1 99 && inB b 1 98
 else if k = 6 then inB a 1 99 && (b == 0)
 else false
set_option maxHeartbeats 1600000 in
theorem ActOkS_any (x y z : Int) (w : World) :
  Calls Tryz.prog 76 #[.agg #[.int .i64 x, .int .i64 y, .int .i64 z]] w fun e w' => e = .returned (.bool (actOk x y z)) ∧ Below w.heap.size w w' := by
 by_cases h1 : x = 1 ∨ x = 3
 ·have e1 : actOk x y z = (inB y 0 1000 && (z == 0)) := by unfold actOk; rw [if_pos h1]
  have E1 := Lib.hid e1; clear e1
  rcases h1 with rfl | rfl
  all_goals
   cases hi : inB y 0 1000
   all_goals
    go_enter Tryz.func76, Tryz.ntmps76
    go_wp2_with (go_at_call 43; refine (l01In_any _ _ _ _).mono ?_; rintro e w' ⟨rfl, rfl⟩)
    go_ret
    exact ⟨by rw [E1.out, hi]; rfl, (Below.refl _ _).alloc (Nat.le_refl _) _⟩
 by_cases h2 : x = 2
 ·have e1 : actOk x y z = (inB y 1 99 && inB z 0 1000) := by unfold actOk; rw [if_neg h1, if_pos h2]
  have E1 := Lib.hid e1; clear e1 h1
  subst h2
  cases hi : inB y 1 99
  all_goals
   go_enter Tryz.func76, Tryz.ntmps76
   go_wp2_with (go_at_call 43; refine (l01In_any _ _ _ _).mono ?_; rintro e w' ⟨rfl, rfl⟩)
   go_ret
   exact ⟨by rw [E1.out, hi]; rfl, (Below.refl _ _).alloc (Nat.le_refl _) _⟩
 by_cases h4 : x = 4
 ·have e1 : actOk x y z = (inB y 1 99 && inB z 1 99) := by unfold actOk; rw [if_neg h1, if_neg h2, if_pos h4]
  have E1 := Lib.hid e1; clear e1 h1 h2
  subst h4
  cases hi : inB y 1 99
  all_goals
   go_enter Tryz.func76, Tryz.ntmps76
   go_wp2_with (go_at_call 43; refine (l01In_any _ _ _ _).mono ?_; rintro e w' ⟨rfl, rfl⟩)
   go_ret
   exact ⟨by rw [E1.out, hi]; rfl, (Below.refl _ _).alloc (Nat.le_refl _) _⟩
 by_cases h5 : x = 5
 ·have e1 : actOk x y z = (inB y 1 99 && inB z 1 98) := by unfold actOk; rw [if_neg h1, if_neg h2, if_neg h4, if_pos h5]
  have E1 := Lib.hid e1; clear e1 h1 h2 h4
  subst h5
  cases hi : inB y 1 99
  all_goals
   go_enter Tryz.func76, Tryz.ntmps76
   go_wp2_with (go_at_call 43; refine (l01In_any _ _ _ _).mono ?_; rintro e w' ⟨rfl, rfl⟩)
   go_ret
   exact ⟨by rw [E1.out, hi]; rfl, (Below.refl _ _).alloc (Nat.le_refl _) _⟩
 by_cases h6 : x = 6
 ·have e1 : actOk x y z = (inB y 1 99 && (z == 0)) := by unfold actOk; rw [if_neg h1, if_neg h2, if_neg h4, if_neg h5, if_pos h6]
  have E1 := Lib.hid e1; clear e1 h1 h2 h4 h5
  subst h6
  cases hi : inB y 1 99
  all_goals
   go_enter Tryz.func76, Tryz.ntmps76
   go_wp2_with (go_at_call 43; refine (l01In_any _ _ _ _).mono ?_; rintro e w' ⟨rfl, rfl⟩)
   go_ret
   exact ⟨by rw [E1.out, hi]; rfl, (Below.refl _ _).alloc (Nat.le_refl _) _⟩
 have e1 : actOk x y z = false := by unfold actOk; rw [if_neg h1, if_neg h2, if_neg h4, if_neg h5, if_neg h6]
 have E1 := Lib.hid e1; clear e1
 have g1 : (x == 1) = false := by simp; omega
 have g3 : (x == 3) = false := by simp; omega
 have g2 : (x == 2) = false := by simp; omega
 have g4 : (x == 4) = false := by simp; omega
 have g5 : (x == 5) = false := by simp; omega
 have g6 : (x == 6) = false := by simp; omega
 clear h1 h2 h4 h5 h6
 go_enter Tryz.func76, Tryz.ntmps76
 go_wp2
 go_ret
 exact ⟨by rw [E1.out]; rfl, (Below.refl _ _).alloc (Nat.le_refl _) _⟩
set_option maxHeartbeats 1600000 in
theorem ActOk_any (x y z : Int) (w : World) :
  Calls Tryz.prog 59 #[.agg #[.int .i64 x, .int .i64 y, .int .i64 z]] w fun e w' => e = .returned (.bool (actOk x y z)) ∧ Below w.heap.size w w' := by
 by_cases h1 : x = 1 ∨ x = 3
 ·have e1 : actOk x y z = (inB y 0 1000 && (z == 0)) := by unfold actOk; rw [if_pos h1]
  have E1 := Lib.hid e1; clear e1
  rcases h1 with rfl | rfl
  all_goals
   cases hi : inB y 0 1000
   all_goals
    go_enter Tryz.func59, Tryz.ntmps59
    go_wp2_with (go_at_call 97; refine (within_any _ _ _ _).mono ?_; rintro e w' ⟨rfl, rfl⟩)
    go_ret
    exact ⟨by rw [E1.out, hi]; rfl, (Below.refl _ _).alloc (Nat.le_refl _) _⟩
 by_cases h2 : x = 2
 ·have e1 : actOk x y z = (inB y 1 99 && inB z 0 1000) := by unfold actOk; rw [if_neg h1, if_pos h2]
  have E1 := Lib.hid e1; clear e1 h1
  subst h2
  cases hi : inB y 1 99
  all_goals
   go_enter Tryz.func59, Tryz.ntmps59
   go_wp2_with (go_at_call 97; refine (within_any _ _ _ _).mono ?_; rintro e w' ⟨rfl, rfl⟩)
   go_ret
   exact ⟨by rw [E1.out, hi]; rfl, (Below.refl _ _).alloc (Nat.le_refl _) _⟩
 by_cases h4 : x = 4
 ·have e1 : actOk x y z = (inB y 1 99 && inB z 1 99) := by unfold actOk; rw [if_neg h1, if_neg h2, if_pos h4]
  have E1 := Lib.hid e1; clear e1 h1 h2
  subst h4
  cases hi : inB y 1 99
  all_goals
   go_enter Tryz.func59, Tryz.ntmps59
   go_wp2_with (go_at_call 97; refine (within_any _ _ _ _).mono ?_; rintro e w' ⟨rfl, rfl⟩)
   go_ret
   exact ⟨by rw [E1.out, hi]; rfl, (Below.refl _ _).alloc (Nat.le_refl _) _⟩
 by_cases h5 : x = 5
 ·have e1 : actOk x y z = (inB y 1 99 && inB z 1 98) := by unfold actOk; rw [if_neg h1, if_neg h2, if_neg h4, if_pos h5]
  have E1 := Lib.hid e1; clear e1 h1 h2 h4
  subst h5
  cases hi : inB y 1 99
  all_goals
   go_enter Tryz.func59, Tryz.ntmps59
   go_wp2_with (go_at_call 97; refine (within_any _ _ _ _).mono ?_; rintro e w' ⟨rfl, rfl⟩)
   go_ret
   exact ⟨by rw [E1.out, hi]; rfl, (Below.refl _ _).alloc (Nat.le_refl _) _⟩
 by_cases h6 : x = 6
 ·have e1 : actOk x y z = (inB y 1 99 && (z == 0)) := by unfold actOk; rw [if_neg h1, if_neg h2, if_neg h4, if_neg h5, if_pos h6]
  have E1 := Lib.hid e1; clear e1 h1 h2 h4 h5
  subst h6
  cases hi : inB y 1 99
  all_goals
   go_enter Tryz.func59, Tryz.ntmps59
   go_wp2_with (go_at_call 97; refine (within_any _ _ _ _).mono ?_; rintro e w' ⟨rfl, rfl⟩)
   go_ret
   exact ⟨by rw [E1.out, hi]; rfl, (Below.refl _ _).alloc (Nat.le_refl _) _⟩
 have e1 : actOk x y z = false := by unfold actOk; rw [if_neg h1, if_neg h2, if_neg h4, if_neg h5, if_neg h6]
 have E1 := Lib.hid e1; clear e1
 have g1 : (x == 1) = false := by simp; omega
 have g3 : (x == 3) = false := by simp; omega
 have g2 : (x == 2) = false := by simp; omega
 have g4 : (x == 4) = false := by simp; omega
 have g5 : (x == 5) = false := by simp; omega
 have g6 : (x == 6) = false := by simp; omega
 clear h1 h2 h4 h5 h6
 go_enter Tryz.func59, Tryz.ntmps59
 go_wp2
 go_ret
 exact ⟨by rw [E1.out]; rfl, (Below.refl _ _).alloc (Nat.le_refl _) _⟩
end
section
open Go.RowKit
theorem infoI : (Tryz.prog.info? 3).map (fun i => (i.zero, i.size, i.bytes)) = some (some (.int .i64 0), 1, 8) := by kernel_rfl
/-- one int appended to an owned row. -/
theorem wpList_app1 {w : World} {ops : Array Oper} {rest : List Oper} {o : Oper} {a : Act} {Q : Exit → Act → World → Prop} (hgd : o.guard = none) (s x : Operand)
  (ho : o.op = .call { callee := .builtin .append, args := #[s, x], argTypes := #[41, 41] })
  (base : Nat) (A : Option Addr) (c : Nat) (l : List Int) (hs : a.eval s = .slice A l.length c) (hown : OwnI w base A c l)
  (g : Nat) (y : Int) (hx : a.eval x = .slice (some ⟨g, 0, none⟩) 1 1) (hc : w.cell? ⟨g, 0, none⟩ = some (.int .i64 y)) (hlen : l.length ≤ 1099511627776) (hbase : base ≤ w.heap.size)
  (h : ∀ A' c' w', OwnI w' base A' c' (l ++ [y]) → w.grownBy w' (Value.slice A l.length c).ownBlock → wpList Tryz.prog ops Q rest (a.put o.dst (.slice A' (l.length + 1) c')) w') :
  wpList Tryz.prog ops Q (o :: rest) a w := by
 obtain ⟨i0, hi, hz0, hz1, hz2⟩ := info_parts infoI
 refine wpList_append_own _ hgd s x 41 ho base 3 i0 (.int .i64 0) 1 8 Tryz.underlying41 hi hz0 hz1 hz2 rfl (by decide) _ _ _ hs hown ⟨g, 0, none⟩ 1 1 [.int .i64 y] hx rfl ?_ ?_ (by unfold maxLen; omega) (by omega) hbase ?_
 ·intro j u hj
  match j, hj with
  |0, hj => simp at hj; subst hj; rw [Addr.add_lit]; exact hc
 ·intro u hu; simp at hu; subst hu; rfl
 ·intro v' w1 hown' hgrow _
  have hex : ∃ A' c', v' = .slice A' (l.length + 1) c' := by
   rcases hown'.2 with ⟨rfl, h0⟩ | ⟨g', cap, cur, rfl, _⟩
   ·omega
   ·exact ⟨_, _, rfl⟩
  obtain ⟨A', c', rfl⟩ := hex
  refine h A' c' w1 ?_ hgrow
  unfold OwnI
  rw [List.length_append]
  have e : ints (l ++ [y]) = ints l ++ [.int .i64 y] := by unfold ints; rw [List.map_append]; rfl
  rw [e]
  exact hown'
theorem cell_new1 (w : World) (x : Value) (t : TypeId) : (w.alloc (.cells #[x] t)).cell? ⟨w.heap.size, 0, none⟩ = some x := by
 have := cell_one_new w x t 0 x rfl
 rwa [Addr.add_lit] at this
theorem own_nil (w : World) (base : Nat) : OwnI w base none 0 [] := World.ownsRow_nil _ _ _ _
end
section
open Go.RowKit
/-- new level, rained, drunk, lost, ok -/
def evOn (level room k l o : Int) : Int × Int × Int × Int × Bool :=
 if !(inB room 1 1000000 && inB level 0 room && inB l 0 1000000) then (level, 0, 0, 0, false)
 else if k = 1 ∧ o = 0 then (level + min l (room - level), l, 0, l - min l (room - level), true)
 else if k = 2 ∧ (1 ≤ o ∧ o ≤ 999) ∧ l ≤ level then (level - l, 0, l, 0, true)
 else if k = 3 ∧ o = 0 ∧ l ≤ level then (level - l, 0, 0, l, true)
 else (level, 0, 0, 0, false)
def evRet (r : Int × Int × Int × Int × Bool) : Ending := .returned (.tuple #[.int .i64 r.1, .int .i64 r.2.1, .int .i64 r.2.2.1, .int .i64 r.2.2.2.1, .bool r.2.2.2.2])
theorem evOn_bad {level room k l o : Int} (h : inB room 1 1000000 = false ∨ inB level 0 room = false ∨ inB l 0 1000000 = false) : evOn level room k l o = (level, 0, 0, 0, false) := by
 unfold evOn; rcases h with h | h | h <;> simp [h]
theorem evOn_good {level room k l o : Int} (h1 : inB room 1 1000000 = true) (h2 : inB level 0 room = true) (h3 : inB l 0 1000000 = true) : evOn level room k l o =
  if k = 1 ∧ o = 0 then (level + min l (room - level), l, 0, l - min l (room - level), true)
  else if k = 2 ∧ (1 ≤ o ∧ o ≤ 999) ∧ l ≤ level then (level - l, 0, l, 0, true)
  else if k = 3 ∧ o = 0 ∧ l ≤ level then (level - l, 0, 0, l, true)
  else (level, 0, 0, 0, false) := by unfold evOn; rw [h1, h2, h3]; rfl
set_option maxHeartbeats 3200000 in
theorem EventOn_any (level room k l o : Int) (w : World) :
  Calls Tryz.prog 124 #[.int .i64 level, .int .i64 room, .agg #[.int .i64 k, .int .i64 l, .int .i64 o]] w fun e w' => e = evRet (evOn level room k l o) ∧ Below w.heap.size w w' := by
 cases h1 : inB room 1 1000000
 ·have E1 := Lib.hid (evOn_bad (k := k) (o := o) (level := level) (l := l) (.inl h1))
  go_enter Tryz.func124, Tryz.ntmps124
  go_wp2_with (first | (go_at_call 97; refine (within_any _ _ _ _).mono ?_; rintro e w' ⟨rfl, rfl⟩))
  rw [E1.out]
  exact bodyPost_ret (v := .tuple #[.int .i64 level, .int .i64 0, .int .i64 0, .int .i64 0, .bool false]) (by simp [results, Tryz.results124, go_sem]) rfl ⟨rfl, (by exact tacT)⟩
 cases h2 : inB level 0 room
 ·have E1 := Lib.hid (evOn_bad (k := k) (o := o) (l := l) (room := room) (.inr (.inl h2)))
  go_enter Tryz.func124, Tryz.ntmps124
  go_wp2_with (first | (go_at_call 97; refine (within_any _ _ _ _).mono ?_; rintro e w' ⟨rfl, rfl⟩))
  rw [E1.out]
  exact bodyPost_ret (v := .tuple #[.int .i64 level, .int .i64 0, .int .i64 0, .int .i64 0, .bool false]) (by simp [results, Tryz.results124, go_sem]) rfl ⟨rfl, (by exact tacT)⟩
 cases h3 : inB l 0 1000000
 ·have E1 := Lib.hid (evOn_bad (k := k) (o := o) (level := level) (room := room) (.inr (.inr h3)))
  go_enter Tryz.func124, Tryz.ntmps124
  go_wp2_with (first | (go_at_call 97; refine (within_any _ _ _ _).mono ?_; rintro e w' ⟨rfl, rfl⟩))
  rw [E1.out]
  exact bodyPost_ret (v := .tuple #[.int .i64 level, .int .i64 0, .int .i64 0, .int .i64 0, .bool false]) (by simp [results, Tryz.results124, go_sem]) rfl ⟨rfl, (by exact tacT)⟩
 have e0 := evOn_good (k := k) (o := o) h1 h2 h3
 obtain ⟨r1, r2⟩ := inB_iff.1 h1
 obtain ⟨v1, v2⟩ := inB_iff.1 h2
 obtain ⟨l1, l2⟩ := inB_iff.1 h3
 by_cases ha : k = 1 ∧ o = 0
 ·rw [if_pos ha] at e0
  have E1 := Lib.hid e0; clear e0
  obtain ⟨rfl, rfl⟩ := ha
  by_cases hm : l ≤ room - level
  all_goals
   go_enter Tryz.func124, Tryz.ntmps124
   go_wp2_with (first | (go_at_call 97; refine (within_any _ _ _ _).mono ?_; rintro e w' ⟨rfl, rfl⟩))
   have q1 : IntKind.i64.wrap (level + l) = level + l := IntWalk.i64_in _ (by omega)
   have q2 : IntKind.i64.wrap (l - l) = l - l := IntWalk.i64_in _ (by omega)
   have q3 : IntKind.i64.wrap (level + (room - level)) = level + (room - level) := IntWalk.i64_in _ (by omega)
   have q4 : IntKind.i64.wrap (l - (room - level)) = l - (room - level) := IntWalk.i64_in _ (by omega)
   go_quiet (fail)
   clear q1 q2 q3 q4
   go_wp2
   rw [E1.out]
  ·have e1 : min l (room - level) = l := by omega
   rw [e1]
   exact bodyPost_ret (v := .tuple #[.int .i64 (level + l), .int .i64 (l), .int .i64 (0), .int .i64 (l - l), .bool true]) (by simp [results, Tryz.results124, go_sem]) rfl ⟨rfl, (by exact tacT)⟩
  ·have e1 : min l (room - level) = room - level := by omega
   rw [e1]
   exact bodyPost_ret (v := .tuple #[.int .i64 (level + (room - level)), .int .i64 (l), .int .i64 (0), .int .i64 (l - (room - level)), .bool true]) (by simp [results, Tryz.results124, go_sem]) rfl ⟨rfl, (by exact tacT)⟩
 rw [if_neg ha] at e0
 by_cases hb : k = 2 ∧ (1 ≤ o ∧ o ≤ 999) ∧ l ≤ level
 ·rw [if_pos hb] at e0
  have E1 := Lib.hid e0; clear e0 ha
  obtain ⟨rfl, ⟨o1, o2⟩, hl⟩ := hb
  have h9 : inB o 1 999 = true := inB_iff.2 ⟨o1, o2⟩
  go_enter Tryz.func124, Tryz.ntmps124
  go_wp2_with (first | (go_at_call 97; refine (within_any _ _ _ _).mono ?_; rintro e w' ⟨rfl, rfl⟩))
  have q1 : IntKind.i64.wrap (level - l) = level - l := IntWalk.i64_in _ (by omega)
  go_quiet (fail)
  clear q1
  go_wp2
  rw [E1.out]
  exact bodyPost_ret (v := .tuple #[.int .i64 (level - l), .int .i64 (0), .int .i64 (l), .int .i64 (0), .bool true]) (by simp [results, Tryz.results124, go_sem]) rfl ⟨rfl, (by exact tacT)⟩
 rw [if_neg hb] at e0
 by_cases hd : k = 3 ∧ o = 0 ∧ l ≤ level
 ·rw [if_pos hd] at e0
  have E1 := Lib.hid e0; clear e0 ha hb
  obtain ⟨rfl, rfl, hl⟩ := hd
  go_enter Tryz.func124, Tryz.ntmps124
  go_wp2_with (first | (go_at_call 97; refine (within_any _ _ _ _).mono ?_; rintro e w' ⟨rfl, rfl⟩))
  have q1 : IntKind.i64.wrap (level - l) = level - l := IntWalk.i64_in _ (by omega)
  go_quiet (fail)
  clear q1
  go_wp2
  rw [E1.out]
  exact bodyPost_ret (v := .tuple #[.int .i64 (level - l), .int .i64 (0), .int .i64 (0), .int .i64 (l), .bool true]) (by simp [results, Tryz.results124, go_sem]) rfl ⟨rfl, (by exact tacT)⟩
 rw [if_neg hd] at e0
 have E1 := Lib.hid e0; clear e0
 by_cases k1 : k = 1
 ·subst k1
  have o0 : (o == 0) = false := by simp; omega
  clear ha hb hd
  go_enter Tryz.func124, Tryz.ntmps124
  go_wp2_with (first | (go_at_call 97; refine (within_any _ _ _ _).mono ?_; rintro e w' ⟨rfl, rfl⟩))
  rw [E1.out]
  exact bodyPost_ret (v := .tuple #[.int .i64 (level), .int .i64 (0), .int .i64 (0), .int .i64 (0), .bool false]) (by simp [results, Tryz.results124, go_sem]) rfl ⟨rfl, (by exact tacT)⟩
 by_cases k2 : k = 2
 ·subst k2
  cases h9 : inB o 1 999
  ·clear ha hb hd
   go_enter Tryz.func124, Tryz.ntmps124
   go_wp2_with (first | (go_at_call 97; refine (within_any _ _ _ _).mono ?_; rintro e w' ⟨rfl, rfl⟩))
   rw [E1.out]
   exact bodyPost_ret (v := .tuple #[.int .i64 (level), .int .i64 (0), .int .i64 (0), .int .i64 (0), .bool false]) (by simp [results, Tryz.results124, go_sem]) rfl ⟨rfl, (by exact tacT)⟩
  ·have hl : ¬ l ≤ level := fun h => hb ⟨rfl, inB_iff.1 h9, h⟩
   clear ha hb hd
   go_enter Tryz.func124, Tryz.ntmps124
   go_wp2_with (first | (go_at_call 97; refine (within_any _ _ _ _).mono ?_; rintro e w' ⟨rfl, rfl⟩))
   rw [E1.out]
   exact bodyPost_ret (v := .tuple #[.int .i64 (level), .int .i64 (0), .int .i64 (0), .int .i64 (0), .bool false]) (by simp [results, Tryz.results124, go_sem]) rfl ⟨rfl, (by exact tacT)⟩
 have g1 : (k == 1) = false := by simp; omega
 have g2 : (k == 2) = false := by simp; omega
 by_cases k3 : k = 3
 ·subst k3
  by_cases o0 : o = 0
  ·subst o0
   have hl : ¬ l ≤ level := fun h => hd ⟨rfl, rfl, h⟩
   clear ha hb hd
   go_enter Tryz.func124, Tryz.ntmps124
   go_wp2_with (first | (go_at_call 97; refine (within_any _ _ _ _).mono ?_; rintro e w' ⟨rfl, rfl⟩))
   rw [E1.out]
   exact bodyPost_ret (v := .tuple #[.int .i64 (level), .int .i64 (0), .int .i64 (0), .int .i64 (0), .bool false]) (by simp [results, Tryz.results124, go_sem]) rfl ⟨rfl, (by exact tacT)⟩
  ·have o1 : (o == 0) = false := by simp; omega
   clear ha hb hd
   go_enter Tryz.func124, Tryz.ntmps124
   go_wp2_with (first | (go_at_call 97; refine (within_any _ _ _ _).mono ?_; rintro e w' ⟨rfl, rfl⟩))
   rw [E1.out]
   exact bodyPost_ret (v := .tuple #[.int .i64 (level), .int .i64 (0), .int .i64 (0), .int .i64 (0), .bool false]) (by simp [results, Tryz.results124, go_sem]) rfl ⟨rfl, (by exact tacT)⟩
 have g3 : (k == 3) = false := by simp; omega
 clear ha hb hd k1 k2 k3
 go_enter Tryz.func124, Tryz.ntmps124
 go_wp2_with (first | (go_at_call 97; refine (within_any _ _ _ _).mono ?_; rintro e w' ⟨rfl, rfl⟩))
 rw [E1.out]
 exact bodyPost_ret (v := .tuple #[.int .i64 (level), .int .i64 (0), .int .i64 (0), .int .i64 (0), .bool false]) (by simp [results, Tryz.results124, go_sem]) rfl ⟨rfl, (by exact tacT)⟩
set_option maxHeartbeats 3200000 in
theorem EventOnS_any (level room k l o : Int) (w : World) :
  Calls Tryz.prog 139 #[.int .i64 level, .int .i64 room, .agg #[.int .i64 k, .int .i64 l, .int .i64 o]] w fun e w' => e = evRet (evOn level room k l o) ∧ Below w.heap.size w w' := by
 cases h1 : inB room 1 1000000
 ·have E1 := Lib.hid (evOn_bad (k := k) (o := o) (level := level) (l := l) (.inl h1))
  go_enter Tryz.func139, Tryz.ntmps139
  go_wp2_with (first | (go_at_call 43; refine (l01In_any _ _ _ _).mono ?_; rintro e w' ⟨rfl, rfl⟩) | (go_at_call 159; refine (l04Water_any _ _).mono ?_; rintro e w' ⟨rfl, rfl⟩))
  rw [E1.out]
  exact bodyPost_ret (v := .tuple #[.int .i64 level, .int .i64 0, .int .i64 0, .int .i64 0, .bool false]) (by simp [results, Tryz.results139, go_sem]) rfl ⟨rfl, (by exact tacT)⟩
 cases h2 : inB level 0 room
 ·have E1 := Lib.hid (evOn_bad (k := k) (o := o) (l := l) (room := room) (.inr (.inl h2)))
  go_enter Tryz.func139, Tryz.ntmps139
  go_wp2_with (first | (go_at_call 43; refine (l01In_any _ _ _ _).mono ?_; rintro e w' ⟨rfl, rfl⟩) | (go_at_call 159; refine (l04Water_any _ _).mono ?_; rintro e w' ⟨rfl, rfl⟩))
  rw [E1.out]
  exact bodyPost_ret (v := .tuple #[.int .i64 level, .int .i64 0, .int .i64 0, .int .i64 0, .bool false]) (by simp [results, Tryz.results139, go_sem]) rfl ⟨rfl, (by exact tacT)⟩
 cases h3 : inB l 0 1000000
 ·have E1 := Lib.hid (evOn_bad (k := k) (o := o) (level := level) (room := room) (.inr (.inr h3)))
  go_enter Tryz.func139, Tryz.ntmps139
  go_wp2_with (first | (go_at_call 43; refine (l01In_any _ _ _ _).mono ?_; rintro e w' ⟨rfl, rfl⟩) | (go_at_call 159; refine (l04Water_any _ _).mono ?_; rintro e w' ⟨rfl, rfl⟩))
  rw [E1.out]
  exact bodyPost_ret (v := .tuple #[.int .i64 level, .int .i64 0, .int .i64 0, .int .i64 0, .bool false]) (by simp [results, Tryz.results139, go_sem]) rfl ⟨rfl, (by exact tacT)⟩
 have e0 := evOn_good (k := k) (o := o) h1 h2 h3
 obtain ⟨r1, r2⟩ := inB_iff.1 h1
 obtain ⟨v1, v2⟩ := inB_iff.1 h2
 obtain ⟨l1, l2⟩ := inB_iff.1 h3
 by_cases ha : k = 1 ∧ o = 0
 ·rw [if_pos ha] at e0
  have E1 := Lib.hid e0; clear e0
  obtain ⟨rfl, rfl⟩ := ha
  by_cases hm : l ≤ room - level
  all_goals
   go_enter Tryz.func139, Tryz.ntmps139
   go_wp2_with (first | (go_at_call 43; refine (l01In_any _ _ _ _).mono ?_; rintro e w' ⟨rfl, rfl⟩) | (go_at_call 159; refine (l04Water_any _ _).mono ?_; rintro e w' ⟨rfl, rfl⟩))
   have q1 : IntKind.i64.wrap (level + l) = level + l := IntWalk.i64_in _ (by omega)
   have q2 : IntKind.i64.wrap (l - l) = l - l := IntWalk.i64_in _ (by omega)
   have q3 : IntKind.i64.wrap (level + (room - level)) = level + (room - level) := IntWalk.i64_in _ (by omega)
   have q4 : IntKind.i64.wrap (l - (room - level)) = l - (room - level) := IntWalk.i64_in _ (by omega)
   go_quiet (fail)
   clear q1 q2 q3 q4
   go_wp2
   rw [E1.out]
  ·have e1 : min l (room - level) = l := by omega
   rw [e1]
   exact bodyPost_ret (v := .tuple #[.int .i64 (level + l), .int .i64 (l), .int .i64 (0), .int .i64 (l - l), .bool true]) (by simp [results, Tryz.results139, go_sem]) rfl ⟨rfl, (by exact tacT)⟩
  ·have e1 : min l (room - level) = room - level := by omega
   rw [e1]
   exact bodyPost_ret (v := .tuple #[.int .i64 (level + (room - level)), .int .i64 (l), .int .i64 (0), .int .i64 (l - (room - level)), .bool true]) (by simp [results, Tryz.results139, go_sem]) rfl ⟨rfl, (by exact tacT)⟩
 rw [if_neg ha] at e0
 by_cases hb : k = 2 ∧ (1 ≤ o ∧ o ≤ 999) ∧ l ≤ level
 ·rw [if_pos hb] at e0
  have E1 := Lib.hid e0; clear e0 ha
  obtain ⟨rfl, ⟨o1, o2⟩, hl⟩ := hb
  have h9 : inB o 1 999 = true := inB_iff.2 ⟨o1, o2⟩
  go_enter Tryz.func139, Tryz.ntmps139
  go_wp2_with (first | (go_at_call 43; refine (l01In_any _ _ _ _).mono ?_; rintro e w' ⟨rfl, rfl⟩) | (go_at_call 159; refine (l04Water_any _ _).mono ?_; rintro e w' ⟨rfl, rfl⟩))
  have q1 : IntKind.i64.wrap (level - l) = level - l := IntWalk.i64_in _ (by omega)
  go_quiet (fail)
  clear q1
  go_wp2
  rw [E1.out]
  exact bodyPost_ret (v := .tuple #[.int .i64 (level - l), .int .i64 (0), .int .i64 (l), .int .i64 (0), .bool true]) (by simp [results, Tryz.results139, go_sem]) rfl ⟨rfl, (by exact tacT)⟩
 rw [if_neg hb] at e0
 by_cases hd : k = 3 ∧ o = 0 ∧ l ≤ level
 ·rw [if_pos hd] at e0
  have E1 := Lib.hid e0; clear e0 ha hb
  obtain ⟨rfl, rfl, hl⟩ := hd
  go_enter Tryz.func139, Tryz.ntmps139
  go_wp2_with (first | (go_at_call 43; refine (l01In_any _ _ _ _).mono ?_; rintro e w' ⟨rfl, rfl⟩) | (go_at_call 159; refine (l04Water_any _ _).mono ?_; rintro e w' ⟨rfl, rfl⟩))
  have q1 : IntKind.i64.wrap (level - l) = level - l := IntWalk.i64_in _ (by omega)
  go_quiet (fail)
  clear q1
  go_wp2
  rw [E1.out]
  exact bodyPost_ret (v := .tuple #[.int .i64 (level - l), .int .i64 (0), .int .i64 (0), .int .i64 (l), .bool true]) (by simp [results, Tryz.results139, go_sem]) rfl ⟨rfl, (by exact tacT)⟩
 rw [if_neg hd] at e0
 have E1 := Lib.hid e0; clear e0
 by_cases k1 : k = 1
 ·subst k1
  have o0 : (o == 0) = false := by simp; omega
  clear ha hb hd
  go_enter Tryz.func139, Tryz.ntmps139
  go_wp2_with (first | (go_at_call 43; refine (l01In_any _ _ _ _).mono ?_; rintro e w' ⟨rfl, rfl⟩) | (go_at_call 159; refine (l04Water_any _ _).mono ?_; rintro e w' ⟨rfl, rfl⟩))
  rw [E1.out]
  exact bodyPost_ret (v := .tuple #[.int .i64 (level), .int .i64 (0), .int .i64 (0), .int .i64 (0), .bool false]) (by simp [results, Tryz.results139, go_sem]) rfl ⟨rfl, (by exact tacT)⟩
 by_cases k2 : k = 2
 ·subst k2
  cases h9 : inB o 1 999
  ·clear ha hb hd
   go_enter Tryz.func139, Tryz.ntmps139
   go_wp2_with (first | (go_at_call 43; refine (l01In_any _ _ _ _).mono ?_; rintro e w' ⟨rfl, rfl⟩) | (go_at_call 159; refine (l04Water_any _ _).mono ?_; rintro e w' ⟨rfl, rfl⟩))
   rw [E1.out]
   exact bodyPost_ret (v := .tuple #[.int .i64 (level), .int .i64 (0), .int .i64 (0), .int .i64 (0), .bool false]) (by simp [results, Tryz.results139, go_sem]) rfl ⟨rfl, (by exact tacT)⟩
  ·have hl : ¬ l ≤ level := fun h => hb ⟨rfl, inB_iff.1 h9, h⟩
   clear ha hb hd
   go_enter Tryz.func139, Tryz.ntmps139
   go_wp2_with (first | (go_at_call 43; refine (l01In_any _ _ _ _).mono ?_; rintro e w' ⟨rfl, rfl⟩) | (go_at_call 159; refine (l04Water_any _ _).mono ?_; rintro e w' ⟨rfl, rfl⟩))
   rw [E1.out]
   exact bodyPost_ret (v := .tuple #[.int .i64 (level), .int .i64 (0), .int .i64 (0), .int .i64 (0), .bool false]) (by simp [results, Tryz.results139, go_sem]) rfl ⟨rfl, (by exact tacT)⟩
 have g1 : (k == 1) = false := by simp; omega
 have g2 : (k == 2) = false := by simp; omega
 by_cases k3 : k = 3
 ·subst k3
  by_cases o0 : o = 0
  ·subst o0
   have hl : ¬ l ≤ level := fun h => hd ⟨rfl, rfl, h⟩
   clear ha hb hd
   go_enter Tryz.func139, Tryz.ntmps139
   go_wp2_with (first | (go_at_call 43; refine (l01In_any _ _ _ _).mono ?_; rintro e w' ⟨rfl, rfl⟩) | (go_at_call 159; refine (l04Water_any _ _).mono ?_; rintro e w' ⟨rfl, rfl⟩))
   rw [E1.out]
   exact bodyPost_ret (v := .tuple #[.int .i64 (level), .int .i64 (0), .int .i64 (0), .int .i64 (0), .bool false]) (by simp [results, Tryz.results139, go_sem]) rfl ⟨rfl, (by exact tacT)⟩
  ·have o1 : (o == 0) = false := by simp; omega
   clear ha hb hd
   go_enter Tryz.func139, Tryz.ntmps139
   go_wp2_with (first | (go_at_call 43; refine (l01In_any _ _ _ _).mono ?_; rintro e w' ⟨rfl, rfl⟩) | (go_at_call 159; refine (l04Water_any _ _).mono ?_; rintro e w' ⟨rfl, rfl⟩))
   rw [E1.out]
   exact bodyPost_ret (v := .tuple #[.int .i64 (level), .int .i64 (0), .int .i64 (0), .int .i64 (0), .bool false]) (by simp [results, Tryz.results139, go_sem]) rfl ⟨rfl, (by exact tacT)⟩
 have g3 : (k == 3) = false := by simp; omega
 clear ha hb hd k1 k2 k3
 go_enter Tryz.func139, Tryz.ntmps139
 go_wp2_with (first | (go_at_call 43; refine (l01In_any _ _ _ _).mono ?_; rintro e w' ⟨rfl, rfl⟩) | (go_at_call 159; refine (l04Water_any _ _).mono ?_; rintro e w' ⟨rfl, rfl⟩))
 rw [E1.out]
 exact bodyPost_ret (v := .tuple #[.int .i64 (level), .int .i64 (0), .int .i64 (0), .int .i64 (0), .bool false]) (by simp [results, Tryz.results139, go_sem]) rfl ⟨rfl, (by exact tacT)⟩
end
end Go.Proofs.YtpmmjhpmheooeaaGreatDoor
