/- Marks in a slice of events, and the look for them. -/
import Derived.Test.YtbkgofjajhplpaaDoorTo3
namespace Go.Proofs.YtbkgofjajhplpaaDoor
set_option linter.unusedSimpArgs false
set_option linter.unusedVariables false
open Go.RowKit
def tm (k : Nat) : T3 := ⟨(k : Int), (k : Int) + 1, (k : Int) + 2⟩
def marksT (k n : Nat) : List T3 := (List.range n).map fun i => tm (k + 3 * i)
theorem marksT_len (k n : Nat) : (marksT k n).length = n := by simp [marksT]
theorem marksT_succ (k n : Nat) : marksT k (n + 1) = marksT k n ++ [tm (k + 3 * n)] := by
  unfold marksT; rw [List.range_succ]; simp
theorem marksT_get (k n j : Nat) (h : j < n) : (marksT k n)[j]? = some (tm (k + 3 * j)) := by
  unfold marksT; rw [List.getElem?_map, List.getElem?_range h]; rfl
def mkT (l : List T3) (k i : Nat) : List T3 := marksT k i ++ l.drop i
theorem mkT_len (l : List T3) (k i : Nat) (h : i ≤ l.length) : (mkT l k i).length = l.length := by simp [mkT, marksT_len]; omega
theorem mkT_all (l : List T3) (k : Nat) : mkT l k l.length = marksT k l.length := by simp [mkT]
theorem mkT_succ (l : List T3) (k i : Nat) (h : i < l.length) : (mkT l k i).set i (tm (k + 3 * i)) = mkT l k (i + 1) := by
  unfold mkT
  rw [List.set_append_right _ _ (by rw [marksT_len]; omega), marksT_len, Nat.sub_self, List.drop_eq_getElem_cons h, List.set_cons_zero, marksT_succ, List.append_assoc]
  rfl
set_option maxHeartbeats 800000 in
theorem markEventS_any (A : Option Addr) (c base : Nat) (l : List T3) (k : Nat) (w : World) (h : w.ownsRow base 139 3 (.slice A l.length c) l.length (t3s l)) (hs : l.length ≤ 1048576 * 64) (hkk : k ≤ 1048576 * 64) :
    Calls Tryd.prog 95 #[.slice A l.length c, .int .i64 k] w fun e w' => e = .returned (.int .i64 ((k + 3 * l.length : Nat) : Int)) ∧ w'.ownsRow base 139 3 (.slice A l.length c) l.length (t3s (marksT k l.length)) ∧ w.grownBy w' (Value.slice A l.length c).ownBlock := by
  go_enter Tryd.func95, Tryd.ntmps95
  go_wp2
  go_loopw [1, 5] (fun kk i wr => ∃ j : Nat, j ≤ l.length ∧ i = .int .i64 j ∧ kk = .int .i64 ((k + 3 * j : Nat) : Int) ∧ wr.ownsRow base 139 3 (.slice A l.length c) l.length (t3s (mkT l k j)) ∧ w.grownBy wr (Value.slice A l.length c).ownBlock) (fun _ i _ => l.length - (intOf i).toNat)
  case atStart => exact ⟨0, Nat.zero_le _, rfl, rfl, h, World.grownBy.refl _ _⟩
  case round =>
    obtain ⟨j, hj, rfl, rfl, ho, hgr⟩ := hrel
    have hlen := mkT_len l k j hj
    by_cases hlt : j < l.length
    · obtain ⟨g, hg, hg1, hg2, hfz, ⟨t, hx, e0, e1, e2⟩, hset⟩ := own_setT (l := mkT l k j) (k := j) (by rw [hlen]; exact ho) (by rw [hlen]; exact hlt)
      subst hg
      obtain ⟨ho', hgr'⟩ := hset (tm (k + 3 * j))
      rw [mkT_succ l k j hlt, hlen] at ho'
      have H1 := Lib.hid (And.intro (grownBy_trans hgr hgr') ho')
      clear ho hgr hgr' ho' hset hlen hx
      go_wp2
      go_roundw
      case rel => exact ⟨j + 1, by omega, by go_num, by go_num, H1.out.2, H1.out.1⟩
      case measure => simp [intOf]; omega
    · obtain rfl : j = l.length := by omega
      rw [mkT_all] at ho
      have H1 := Lib.hid (And.intro hgr ho)
      clear ho hgr hlen
      go_wp2
      go_ret
      exact ⟨by simp, H1.out.2, H1.out.1⟩
theorem markEventS_2 (A : Option Addr) (c lo hi : Nat) (l : List T3) (k : Nat) (kz : Int) (hk : kz = k) (w : World) (h : Row2 w lo hi 139 3 A l.length c (t3s l)) (hs : l.length ≤ 1048576 * 64) (hkk : k ≤ 1048576 * 64) :
    Calls Tryd.prog 95 #[.slice A l.length c, .int .i64 kz] w fun e w' => e = .returned (.int .i64 (kz + 3 * l.length)) ∧ Row2 w' lo hi 139 3 A l.length c (t3s (marksT k l.length)) ∧ Chg lo hi w w' := by
  subst hk
  exact (markEventS_any A c lo l k w h.1 hs hkk).mono fun e w' ⟨h1, h2, h3⟩ => ⟨by rw [h1]; simp, ⟨h2, h.2⟩, h.wrote h3⟩
end Go.Proofs.YtbkgofjajhplpaaDoor
