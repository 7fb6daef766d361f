/- SameRights. -/
import Derived.Test.YtpmmjhpmheooeaaDoorRightsOk
namespace Go.Proofs.YtpmmjhpmheooeaaDoor
set_option linter.unusedSimpArgs false
set_option linter.unusedVariables false
open Go.RowKit
set_option maxRecDepth 20000
def sameRights (a b : List T3) : Bool := rightsOk a && rightsOk b && decide (a = b)
theorem t3_ne {s t : T3} (h : s ≠ t) : (s.x == t.x && (s.y == t.y && s.z == t.z)) = false := by
  cases hc : (s.x == t.x && (s.y == t.y && s.z == t.z))
  · rfl
  · simp at hc
    exact absurd (by cases s; cases t; simp at hc; simp [hc]) h
set_option maxHeartbeats 800000 in
theorem EqualRights_any (A B : Option Addr) (c d : Nat) (l m : List T3) (w : World) (h : RdT w w.heap.size A c l) (h' : RdT w w.heap.size B d m) :
    Calls Tryd.prog 38 #[.slice A l.length c, .slice B m.length d] w fun e w' => e = .returned (.bool (decide (l = m))) ∧ ∃ n, w' = w.drewN n := by
  obtain ⟨hl, hm⟩ := h.le
  obtain ⟨hl', hm'⟩ := h'.le
  by_cases hlen : l.length = m.length
  · go_enter Tryd.func38, Tryd.ntmps38
    go_wp2
    go_loopw [13] (fun i wr => ∃ k : Nat, k ≤ l.length ∧ i = .int .i64 k ∧ Hid (decide (l = m) = decide (l.drop k = m.drop k)) ∧ ∃ n, wr = w.drewN n) (fun i _ => l.length - (intOf i).toNat)
    case atStart => exact ⟨0, Nat.zero_le _, rfl, rfl, 0, rfl⟩
    case round =>
      obtain ⟨k, hk, rfl, HR, n, rfl⟩ := hrel
      by_cases hlt : k < l.length
      · obtain ⟨b, o, x, rfl, hbb, hx, e0, e1, e2⟩ := h.at_ hlt
        obtain ⟨b', o', y, rfl, hbb', hy, j0, j1, j2⟩ := h'.at_ (k := k) (by omega)
        have HX := Lib.hid (And.intro hx hy); clear hx hy
        have hk0 : (0 : Int) ≤ (k : Int) := by omega
        have hk1 : (k : Int) < (l.length : Int) := by omega
        have hk2 : (k : Int) < (m.length : Int) := by omega
        obtain ⟨x1, x2, x3⟩ := x
        obtain ⟨y1, y2, y3⟩ := y
        simp only at e0 e1 e2 j0 j1 j2
        by_cases n1 : x1 = y1
        case neg =>
          go_wp2
          go_quiet (fail)
          go_wp2
          go_ret
          exact ⟨ret_bool (by rw [HR.out, drop_cons HX.out.1, drop_cons HX.out.2]; simp [n1]), n + nq, World.drewN_drewN _ _ _⟩
        subst n1
        by_cases n2 : x2 = y2
        case neg =>
          go_wp2
          go_quiet (fail)
          go_wp2
          go_ret
          exact ⟨ret_bool (by rw [HR.out, drop_cons HX.out.1, drop_cons HX.out.2]; simp [n2]), n + nq, World.drewN_drewN _ _ _⟩
        subst n2
        by_cases n3 : x3 = y3
        case neg =>
          go_wp2
          go_quiet (fail)
          go_wp2
          go_ret
          exact ⟨ret_bool (by rw [HR.out, drop_cons HX.out.1, drop_cons HX.out.2]; simp [n3]), n + nq, World.drewN_drewN _ _ _⟩
        subst n3
        go_wp2
        go_quiet (fail)
        go_wp2
        go_roundw
        case rel => exact ⟨k + 1, by omega, by go_num, (show decide (l = m) = decide (l.drop (k + 1) = m.drop (k + 1)) from by rw [HR.out, drop_cons HX.out.1, drop_cons HX.out.2]; simp), _, rfl⟩
        case measure => simp [intOf]; omega
      · go_wp2
        go_ret
        have e1 := HR.out
        rw [drop_end hlt, drop_end (by omega)] at e1
        exact ⟨by rw [e1]; simp, n, rfl⟩
  · have hd : ((l.length : Int) != (m.length : Int)) = true := by simpa using fun e => hlen (by omega)
    go_enter Tryd.func38, Tryd.ntmps38
    go_wp2
    go_ret
    have hne : l ≠ m := fun e => hlen (by rw [e])
    exact ⟨by simp [hne], 0, rfl⟩
set_option maxHeartbeats 800000 in
theorem SameRights_any (A : Option Addr) (c : Nat) (l : List T3) (B : Option Addr) (d : Nat) (m : List T3) (w : World) (h : RdT w w.heap.size A c l) (h' : RdT w w.heap.size B d m) :
    Calls Tryd.prog 16 #[.slice A l.length c, .slice B m.length d] w fun e w' => e = .returned (.bool (sameRights l m)) ∧ Below w.heap.size w w' := by
  have H1 : Hid (∀ W, Below w.heap.size w W → Calls Tryd.prog 36 #[.slice A l.length c] W fun e w' => e = .returned (.bool (rightsOk l)) ∧ Below W.heap.size W w') := fun W hb => RightsOk_any A c l W (h.below hb)
  have H2 : Hid (∀ W, Below w.heap.size w W → Calls Tryd.prog 36 #[.slice B m.length d] W fun e w' => e = .returned (.bool (rightsOk m)) ∧ Below W.heap.size W w') := fun W hb => RightsOk_any B d m W (h'.below hb)
  have H3 : Hid (∀ W, Below w.heap.size w W → Calls Tryd.prog 38 #[.slice A l.length c, .slice B m.length d] W fun e w' => e = .returned (.bool (decide (l = m))) ∧ Below W.heap.size W w') := fun W hb => post_d (EqualRights_any A B c d l m W (h.below hb) (h'.below hb))
  have hB := Below.refl w.heap.size w
  cases h1 : rightsOk l
  · go_enter Tryd.func16, Tryd.ntmps16
    go_wp2_with fail
    refine (H1.out _ hB).mono ?_
    rw [h1]
    rintro e w1 ⟨rfl, hb⟩
    replace hB := hB.trans (Below.mono hb hB.size)
    have hz_w1 : w.heap.size ≤ w1.heap.size := Below.size hb
    clear hb
    go_wp2_with fail
    go_ret
    exact ⟨ret_bool (by unfold sameRights; rw [h1]; rfl), hB⟩
  cases h2 : rightsOk m
  · go_enter Tryd.func16, Tryd.ntmps16
    go_wp2_with fail
    refine (H1.out _ hB).mono ?_
    rw [h1]
    rintro e w1 ⟨rfl, hb⟩
    replace hB := hB.trans (Below.mono hb hB.size)
    have hz_w1 : w.heap.size ≤ w1.heap.size := Below.size hb
    clear hb
    go_wp2_with fail
    refine (H2.out _ hB).mono ?_
    rw [h2]
    rintro e w2 ⟨rfl, hb⟩
    replace hB := hB.trans (Below.mono hb hB.size)
    have hz_w2 : w1.heap.size ≤ w2.heap.size := Below.size hb
    clear hb
    go_wp2_with fail
    go_ret
    exact ⟨ret_bool (by unfold sameRights; rw [h1, h2]; rfl), hB⟩
  go_enter Tryd.func16, Tryd.ntmps16
  go_wp2_with fail
  refine (H1.out _ hB).mono ?_
  rw [h1]
  rintro e w1 ⟨rfl, hb⟩
  replace hB := hB.trans (Below.mono hb hB.size)
  have hz_w1 : w.heap.size ≤ w1.heap.size := Below.size hb
  clear hb
  go_wp2_with fail
  refine (H2.out _ hB).mono ?_
  rw [h2]
  rintro e w2 ⟨rfl, hb⟩
  replace hB := hB.trans (Below.mono hb hB.size)
  have hz_w2 : w1.heap.size ≤ w2.heap.size := Below.size hb
  clear hb
  go_wp2_with fail
  refine (H3.out _ hB).mono ?_
  rintro e w3 ⟨rfl, hb⟩
  replace hB := hB.trans (Below.mono hb hB.size)
  have hz_w3 : w2.heap.size ≤ w3.heap.size := Below.size hb
  clear hb
  go_wp2_with fail
  go_ret
  exact ⟨ret_bool (by unfold sameRights; rw [h1, h2]; rfl), hB⟩
end Go.Proofs.YtpmmjhpmheooeaaDoor
