/- DeedDiff. -/
import Derived.Test.YtpmmjhpmheooeaaDoorRightsOk
import Derived.Test.YtpmmjhpmheooeaaDoorRightAt
import Derived.Test.YtpmmjhpmheooeaaDoorKc
import Derived.Test.YtpmmjhpmheooeaaDoorKa
namespace Go.Proofs.YtpmmjhpmheooeaaDoor
set_option linter.unusedSimpArgs false
set_option linter.unusedVariables false
open Go.RowKit
set_option maxRecDepth 20000
/-- The owners from k on, n of them, whose shares differ. -/
def diffGo (a b : List T3) : Nat → Nat → List Int
  | _, 0 => []
  | k, n + 1 => if shareOf a k ≠ shareOf b k then (k : Int) :: diffGo a b (k + 1) n else diffGo a b (k + 1) n
theorem diffGo_snoc (a b : List T3) : ∀ (n k : Nat), diffGo a b k (n + 1) = diffGo a b k n ++ (if shareOf a ((k + n : Nat) : Int) ≠ shareOf b ((k + n : Nat) : Int) then [((k + n : Nat) : Int)] else [])
  | 0, k => by
    show (if shareOf a k ≠ shareOf b k then (k : Int) :: [] else []) = [] ++ _
    rw [Nat.add_zero, List.nil_append]
  | n + 1, k => by
    have ih := diffGo_snoc a b n (k + 1)
    have e : k + 1 + n = k + (n + 1) := by omega
    rw [e] at ih
    show (if shareOf a k ≠ shareOf b k then (k : Int) :: diffGo a b (k + 1) (n + 1) else diffGo a b (k + 1) (n + 1)) = (if shareOf a k ≠ shareOf b k then (k : Int) :: diffGo a b (k + 1) n else diffGo a b (k + 1) n) ++ _
    rw [ih]
    split <;> simp
theorem diffGo_len (a b : List T3) : ∀ (n k : Nat), (diffGo a b k n).length ≤ n
  | 0, _ => Nat.le_refl _
  | n + 1, k => by
    show (if shareOf a k ≠ shareOf b k then (k : Int) :: diffGo a b (k + 1) n else diffGo a b (k + 1) n).length ≤ n + 1
    have := diffGo_len a b n (k + 1)
    split
    · simp; omega
    · omega
def deedDiff (a b : List T3) : List Int := if rightsOk a && rightsOk b then diffGo a b 1 999 else []
theorem deedDiff_len (a b : List T3) : (deedDiff a b).length ≤ 999 := by
  unfold deedDiff
  split
  · exact diffGo_len a b 999 1
  · simp
theorem rows_top : ∀ (l : List T3) (p : Int), rowsOk p l = true → ∀ t ∈ l, 1 ≤ t.y
  | [], _, _ => fun t ht => by cases ht
  | x :: l, p, h => by
    rw [rowsOk_cons] at h
    simp only [Bool.and_eq_true, decide_eq_true_eq] at h
    intro t ht
    rcases List.mem_cons.1 ht with rfl | ht
    · exact h.1.2
    · exact rows_top l _ h.2 t ht
theorem rights_top {l : List T3} (h : rightsOk l = true) : ∀ t ∈ l, 1 ≤ t.y := by
  unfold rightsOk at h
  simp only [Bool.and_eq_true] at h
  exact rows_top l 0 h.1.1
theorem shareOf_none : ∀ (l : List T3) (o : Int), (∀ t ∈ l, t.x ≠ o) → shareOf l o = (0, 0)
  | [], _, _ => rfl
  | x :: l, o, h => by
    rw [shareOf_cons, if_neg (h x (List.mem_cons_self ..))]
    exact shareOf_none l o fun t ht => h t (List.mem_cons_of_mem _ ht)
set_option maxHeartbeats 3200000 in
theorem DeedDiff_any (A : Option Addr) (c : Nat) (l : List T3) (B : Option Addr) (d : Nat) (m : List T3) (w : World) (h : RdT w w.heap.size A c l) (h' : RdT w w.heap.size B d m) :
    Calls Tryd.prog 17 #[.slice A l.length c, .slice B m.length d] w fun e w' => ∃ A' c', e = .returned (.slice A' (deedDiff l m).length c') ∧ OwnI w' w.heap.size A' c' (deedDiff l m) ∧ Below w.heap.size w w' := by
  have hB := Below.refl w.heap.size w
  have H1 : Hid (∀ W, Below w.heap.size w W → Calls Tryd.prog 36 #[.slice A l.length c] W fun e w' => e = .returned (.bool (rightsOk l)) ∧ Below W.heap.size W w') := fun W hb => RightsOk_any A c l W (h.below hb)
  have H2 : Hid (∀ W, Below w.heap.size w W → Calls Tryd.prog 36 #[.slice B m.length d] W fun e w' => e = .returned (.bool (rightsOk m)) ∧ Below W.heap.size W w') := fun W hb => RightsOk_any B d m W (h'.below hb)
  obtain ⟨hl, hm⟩ := h.le
  obtain ⟨hl', hm'⟩ := h'.le
  cases h1 : rightsOk l
  · have E : Hid (deedDiff l m = []) := by show _ = _; unfold deedDiff; rw [h1]; rfl
    have K1 := Lib.hid h1
    clear h1
    go_enter Tryd.func17, Tryd.ntmps17
    go_wp2_with fail
    refine (H1.out _ hB).mono ?_
    rw [K1.out]
    rintro e w1 ⟨rfl, hb⟩
    go_wp2_with fail
    go_ret
    rw [E.out]
    exact ⟨none, 0, rfl, own_nil _ _, hb⟩
  cases h2 : rightsOk m
  · have E : Hid (deedDiff l m = []) := by show _ = _; unfold deedDiff; rw [h1, h2]; rfl
    have K1 := Lib.hid h1
    have K2 := Lib.hid h2
    clear h1 h2
    go_enter Tryd.func17, Tryd.ntmps17
    go_wp2_with fail
    refine (H1.out _ hB).mono ?_
    rw [K1.out]
    rintro e w1 ⟨rfl, hb⟩
    replace hB := hB.trans (Below.mono hb hB.size)
    have hz_w1 : w.heap.size ≤ w1.heap.size := Below.size hb
    clear hb
    go_wp2_with fail
    refine (H2.out _ hB).mono ?_
    rw [K2.out]
    rintro e w2 ⟨rfl, hb⟩
    replace hB := hB.trans (Below.mono hb hB.size)
    have hz_w2 : w1.heap.size ≤ w2.heap.size := Below.size hb
    clear hb
    go_wp2_with fail
    go_ret
    rw [E.out]
    exact ⟨none, 0, rfl, own_nil _ _, hB⟩
  have E : Hid (deedDiff l m = diffGo l m 1 999) := by show _ = _; unfold deedDiff; rw [h1, h2]; rfl
  have T1 := Lib.hid (rights_top h1)
  have T2 := Lib.hid (rights_top h2)
  have K1 := Lib.hid h1
  have K2 := Lib.hid h2
  clear h1 h2
  go_enter Tryd.func17, Tryd.ntmps17
  go_wp2_with fail
  refine (H1.out _ hB).mono ?_
  rw [K1.out]
  rintro e w1 ⟨rfl, hb⟩
  replace hB := hB.trans (Below.mono hb hB.size)
  have hz_w1 : w.heap.size ≤ w1.heap.size := Below.size hb
  clear hb
  go_wp2_with fail
  refine (H2.out _ hB).mono ?_
  rw [K2.out]
  rintro e w2 ⟨rfl, hb⟩
  replace hB := hB.trans (Below.mono hb hB.size)
  have hz_w2 : w1.heap.size ≤ w2.heap.size := Below.size hb
  clear hb
  clear H1 H2 hz_w1 hz_w2
  go_wp2_with fail
  go_loopw [5, 6] (fun v i wr => ∃ (k : Nat) (A' : Option Addr) (c' : Nat) (out : List Int), k ≤ 999 ∧ i = .int .i64 ((1 + k : Nat) : Int) ∧ v = .slice A' out.length c' ∧ Hid (out = diffGo l m 1 k) ∧ OwnI wr w.heap.size A' c' out ∧ Below w.heap.size w wr) (fun _ i _ => 1000 - (intOf i).toNat)
  case atStart => exact ⟨0, none, 0, [], Nat.zero_le _, rfl, rfl, rfl, own_nil _ _, hB⟩
  case round =>
    clear hB
    obtain ⟨k, A', c', out, hk, rfl, rfl, HS, ho, hB⟩ := hrel
    have hol : out.length ≤ 999 := by rw [HS.out]; exact Nat.le_trans (diffGo_len _ _ _ _) hk
    have hbs := hB.size
    by_cases hlt : k < 999
    · have hg : ((1 + k : Nat) : Int) ≤ 999 := by omega
      have hsn := diffGo_snoc l m k 1
      rw [← HS.out] at hsn
      have r1 := rightOf_any A c l ((1 + k : Nat) : Int) wr (h.below hB)
      rcases rightAt_cases l ((1 + k : Nat) : Int) with ⟨a1, a2⟩ | ⟨ka, x, a1, a2, a3, a4, a5⟩
      · rw [a1] at r1
        have R1 := Lib.hid r1
        have e1 := shareOf_none _ _ a2
        rcases rightAt_cases m ((1 + k : Nat) : Int) with ⟨c1, c2⟩ | ⟨kb, y, c1, c2, c3, c4, c5⟩
        · have e2 := shareOf_none _ _ c2
          rw [if_neg (by rw [e1, e2]; simp), List.append_nil] at hsn
          have R2 : Hid (∀ W, Below w.heap.size w W → Calls Tryd.prog 39 #[.slice B m.length d, .int .i64 ((1 + k : Nat) : Int)] W fun e w' => e = .returned (.int .i64 (-1)) ∧ Below W.heap.size W w') := fun W hb => by rw [← c1]; exact rightOf_any B d m _ W (h'.below hb)
          replace HS := Lib.hid hsn.symm
          clear r1 a1 a2 c1 c2 e1 e2 hsn
          go_wp2_with fail
          refine R1.out.mono ?_
          rintro e w1 ⟨rfl, hb⟩
          replace ho := OwnI.below ho hb
          replace hB := hB.trans (Below.mono hb hB.size)
          have hz_w1 : wr.heap.size ≤ w1.heap.size := Below.size hb
          clear hb
          go_wp2_with fail
          refine (R2.out _ hB).mono ?_
          rintro e w2 ⟨rfl, hb⟩
          replace ho := OwnI.below ho hb
          replace hB := hB.trans (Below.mono hb hB.size)
          have hz_w2 : w1.heap.size ≤ w2.heap.size := Below.size hb
          clear hb
          go_wp2_with fail
          go_roundw
          case rel => exact ⟨k + 1, A', c', out, by omega, by go_num, rfl, HS.out, ho, by exact tacT⟩
          case measure => simp [intOf]; omega
        · have hy := T2.out y (List.mem_of_getElem? c3)
          rw [if_pos (by rw [e1, c5]; intro e; have := congrArg Prod.fst e; simp at this; omega)] at hsn
          have R2 : Hid (∀ W, Below w.heap.size w W → Calls Tryd.prog 39 #[.slice B m.length d, .int .i64 ((1 + k : Nat) : Int)] W fun e w' => e = .returned (.int .i64 kb) ∧ Below W.heap.size W w') := fun W hb => by rw [← c1]; exact rightOf_any B d m _ W (h'.below hb)
          replace HS := Lib.hid hsn.symm
          have q1 : ¬ (kb : Int) < 0 := by omega
          have q2 : decide ((kb : Int) < 0) = false := by simp only [decide_eq_false_iff_not]; exact q1
          clear r1 a1 a2 c1 c2 c3 c4 c5 e1 hsn hy
          go_wp2_with fail
          refine R1.out.mono ?_
          rintro e w1 ⟨rfl, hb⟩
          replace ho := OwnI.below ho hb
          replace hB := hB.trans (Below.mono hb hB.size)
          have hz_w1 : wr.heap.size ≤ w1.heap.size := Below.size hb
          clear hb
          go_wp2_with fail
          refine (R2.out _ hB).mono ?_
          rintro e w2 ⟨rfl, hb⟩
          replace ho := OwnI.below ho hb
          replace hB := hB.trans (Below.mono hb hB.size)
          have hz_w2 : w1.heap.size ≤ w2.heap.size := Below.size hb
          clear hb
          go_wp2_with fail
          go_quiet (fail)
          go_wp2_with (at_builtin; refine wpList_app1 rfl _ _ rfl w.heap.size A' c' out rfl ((OwnI.below ho (below_drewN (Below.refl _ _) _)).alloc _) w2.heap.size _ rfl (cell_new1 _ _ _) (by omega) (by (first | omega | (simp; omega))) ?_)
          intro A2 c2 w2 ho2 hg2
          have hb2 : Below w.heap.size w w2 := below_grown_own ((below_drewN hB _).alloc (by first | omega | (simp; omega)) _) ((OwnI.below ho (below_drewN (Below.refl _ _) _)).alloc _) hg2 (Nat.le_refl _) (by first | omega | (simp; omega))
          have H2 := Lib.hid (And.intro ho2 hb2)
          clear ho2 hb2 hg2
          go_wp2_with fail
          go_roundw
          case rel => exact ⟨k + 1, A2, c2, out ++ [((1 + k : Nat) : Int)], by omega, by go_num, by rw [List.length_append]; rfl, HS.out, H2.out.1, H2.out.2⟩
          case measure => simp [intOf]; omega
      · rw [a1] at r1
        have R1 := Lib.hid r1
        have hx := T1.out x (List.mem_of_getElem? a3)
        have p1 : ¬ (ka : Int) < 0 := by omega
        have p2 : decide ((ka : Int) < 0) = false := by simp only [decide_eq_false_iff_not]; exact p1
        rcases rightAt_cases m ((1 + k : Nat) : Int) with ⟨c1, c2⟩ | ⟨kb, y, c1, c2, c3, c4, c5⟩
        · have e2 := shareOf_none _ _ c2
          rw [if_pos (by rw [e2, a5]; intro e; have := congrArg Prod.fst e; simp at this; omega)] at hsn
          have R2 : Hid (∀ W, Below w.heap.size w W → Calls Tryd.prog 39 #[.slice B m.length d, .int .i64 ((1 + k : Nat) : Int)] W fun e w' => e = .returned (.int .i64 (-1)) ∧ Below W.heap.size W w') := fun W hb => by rw [← c1]; exact rightOf_any B d m _ W (h'.below hb)
          replace HS := Lib.hid hsn.symm
          clear r1 a1 a2 a3 a4 a5 c1 c2 e2 hsn hx
          go_wp2_with fail
          refine R1.out.mono ?_
          rintro e w1 ⟨rfl, hb⟩
          replace ho := OwnI.below ho hb
          replace hB := hB.trans (Below.mono hb hB.size)
          have hz_w1 : wr.heap.size ≤ w1.heap.size := Below.size hb
          clear hb
          go_wp2_with fail
          refine (R2.out _ hB).mono ?_
          rintro e w2 ⟨rfl, hb⟩
          replace ho := OwnI.below ho hb
          replace hB := hB.trans (Below.mono hb hB.size)
          have hz_w2 : w1.heap.size ≤ w2.heap.size := Below.size hb
          clear hb
          go_wp2_with fail
          go_quiet (fail)
          go_wp2_with (at_builtin; refine wpList_app1 rfl _ _ rfl w.heap.size A' c' out rfl ((OwnI.below ho (below_drewN (Below.refl _ _) _)).alloc _) w2.heap.size _ rfl (cell_new1 _ _ _) (by omega) (by (first | omega | (simp; omega))) ?_)
          intro A2 c2 w2 ho2 hg2
          have hb2 : Below w.heap.size w w2 := below_grown_own ((below_drewN hB _).alloc (by first | omega | (simp; omega)) _) ((OwnI.below ho (below_drewN (Below.refl _ _) _)).alloc _) hg2 (Nat.le_refl _) (by first | omega | (simp; omega))
          have H2 := Lib.hid (And.intro ho2 hb2)
          clear ho2 hb2 hg2
          go_wp2_with fail
          go_roundw
          case rel => exact ⟨k + 1, A2, c2, out ++ [((1 + k : Nat) : Int)], by omega, by go_num, by rw [List.length_append]; rfl, HS.out, H2.out.1, H2.out.2⟩
          case measure => simp [intOf]; omega
        · rw [a5, c5] at hsn
          have R2 : Hid (∀ W, Below w.heap.size w W → Calls Tryd.prog 39 #[.slice B m.length d, .int .i64 ((1 + k : Nat) : Int)] W fun e w' => e = .returned (.int .i64 kb) ∧ Below W.heap.size W w') := fun W hb => by rw [← c1]; exact rightOf_any B d m _ W (h'.below hb)
          have q1 : ¬ (kb : Int) < 0 := by omega
          have q2 : decide ((kb : Int) < 0) = false := by simp only [decide_eq_false_iff_not]; exact q1
          obtain ⟨bb, oo, x', hA, hbb, hx', i0, i1, i2⟩ := h.at_ a2
          rw [a3] at hx'
          obtain rfl : x = x' := Option.some.inj hx'
          obtain ⟨bb', oo', y', hA', hbb', hy', j0, j1, j2⟩ := h'.at_ c2
          rw [c3] at hy'
          obtain rfl : y = y' := Option.some.inj hy'
          have k0 : (0 : Int) ≤ (ka : Int) := by omega
          have k1 : (ka : Int) < (l.length : Int) := by omega
          have k2 : (0 : Int) ≤ (kb : Int) := by omega
          have k3 : (kb : Int) < (m.length : Int) := by omega
          subst hA hA'
          clear r1 a1 a2 a3 a4 a5 c1 c2 c3 c4 c5 hx hx' hy' i0 j0
          obtain ⟨x1, x2, x3⟩ := x
          obtain ⟨y1, y2, y3⟩ := y
          simp only at i1 i2 j1 j2 hsn
          by_cases n2 : x2 = y2
          case neg =>
            rw [if_pos (fun e => n2 (congrArg Prod.fst e))] at hsn
            replace HS := Lib.hid hsn.symm
            clear hsn
            go_wp2_with fail
            refine R1.out.mono ?_
            rintro e w1 ⟨rfl, hb⟩
            replace ho := OwnI.below ho hb
            replace hB := hB.trans (Below.mono hb hB.size)
            have hz_w1 : wr.heap.size ≤ w1.heap.size := Below.size hb
            clear hb
            go_wp2_with fail
            refine (R2.out _ hB).mono ?_
            rintro e w2 ⟨rfl, hb⟩
            replace ho := OwnI.below ho hb
            replace hB := hB.trans (Below.mono hb hB.size)
            have hz_w2 : w1.heap.size ≤ w2.heap.size := Below.size hb
            clear hb
            have f1 : w2.cell? ⟨bb, oo + ka * 3 + 1, none⟩ = some (.int .i64 x2) := (hB.cell (p := ⟨bb, _, none⟩) hbb).trans i1
            have f2 : w2.cell? ⟨bb, oo + ka * 3 + 2, none⟩ = some (.int .i64 x3) := (hB.cell (p := ⟨bb, _, none⟩) hbb).trans i2
            have f3 : w2.cell? ⟨bb', oo' + kb * 3 + 1, none⟩ = some (.int .i64 y2) := (hB.cell (p := ⟨bb', _, none⟩) hbb').trans j1
            have f4 : w2.cell? ⟨bb', oo' + kb * 3 + 2, none⟩ = some (.int .i64 y3) := (hB.cell (p := ⟨bb', _, none⟩) hbb').trans j2
            clear i1 i2 j1 j2
            go_wp2_with fail
            go_quiet (fail)
            go_wp2_with (at_builtin; refine wpList_app1 rfl _ _ rfl w.heap.size A' c' out rfl ((OwnI.below ho (below_drewN (Below.refl _ _) _)).alloc _) w2.heap.size _ rfl (cell_new1 _ _ _) (by omega) (by (first | omega | (simp; omega))) ?_)
            intro A2 c2 w2 ho2 hg2
            have hb2 : Below w.heap.size w w2 := below_grown_own ((below_drewN hB _).alloc (by first | omega | (simp; omega)) _) ((OwnI.below ho (below_drewN (Below.refl _ _) _)).alloc _) hg2 (Nat.le_refl _) (by first | omega | (simp; omega))
            have H2 := Lib.hid (And.intro ho2 hb2)
            clear ho2 hb2 hg2
            go_wp2_with fail
            go_roundw
            case rel => exact ⟨k + 1, A2, c2, out ++ [((1 + k : Nat) : Int)], by omega, by go_num, by rw [List.length_append]; rfl, HS.out, H2.out.1, H2.out.2⟩
            case measure => simp [intOf]; omega
          subst n2
          by_cases n3 : x3 = y3
          case neg =>
            rw [if_pos (fun e => n3 (congrArg Prod.snd e))] at hsn
            replace HS := Lib.hid hsn.symm
            clear hsn
            go_wp2_with fail
            refine R1.out.mono ?_
            rintro e w1 ⟨rfl, hb⟩
            replace ho := OwnI.below ho hb
            replace hB := hB.trans (Below.mono hb hB.size)
            have hz_w1 : wr.heap.size ≤ w1.heap.size := Below.size hb
            clear hb
            go_wp2_with fail
            refine (R2.out _ hB).mono ?_
            rintro e w2 ⟨rfl, hb⟩
            replace ho := OwnI.below ho hb
            replace hB := hB.trans (Below.mono hb hB.size)
            have hz_w2 : w1.heap.size ≤ w2.heap.size := Below.size hb
            clear hb
            have f1 : w2.cell? ⟨bb, oo + ka * 3 + 1, none⟩ = some (.int .i64 x2) := (hB.cell (p := ⟨bb, _, none⟩) hbb).trans i1
            have f2 : w2.cell? ⟨bb, oo + ka * 3 + 2, none⟩ = some (.int .i64 x3) := (hB.cell (p := ⟨bb, _, none⟩) hbb).trans i2
            have f3 : w2.cell? ⟨bb', oo' + kb * 3 + 1, none⟩ = some (.int .i64 x2) := (hB.cell (p := ⟨bb', _, none⟩) hbb').trans j1
            have f4 : w2.cell? ⟨bb', oo' + kb * 3 + 2, none⟩ = some (.int .i64 y3) := (hB.cell (p := ⟨bb', _, none⟩) hbb').trans j2
            clear i1 i2 j1 j2
            go_wp2_with fail
            go_quiet (fail)
            go_wp2_with (at_builtin; refine wpList_app1 rfl _ _ rfl w.heap.size A' c' out rfl ((OwnI.below ho (below_drewN (Below.refl _ _) _)).alloc _) w2.heap.size _ rfl (cell_new1 _ _ _) (by omega) (by (first | omega | (simp; omega))) ?_)
            intro A2 c2 w2 ho2 hg2
            have hb2 : Below w.heap.size w w2 := below_grown_own ((below_drewN hB _).alloc (by first | omega | (simp; omega)) _) ((OwnI.below ho (below_drewN (Below.refl _ _) _)).alloc _) hg2 (Nat.le_refl _) (by first | omega | (simp; omega))
            have H2 := Lib.hid (And.intro ho2 hb2)
            clear ho2 hb2 hg2
            go_wp2_with fail
            go_roundw
            case rel => exact ⟨k + 1, A2, c2, out ++ [((1 + k : Nat) : Int)], by omega, by go_num, by rw [List.length_append]; rfl, HS.out, H2.out.1, H2.out.2⟩
            case measure => simp [intOf]; omega
          subst n3
          rw [if_neg (fun e => e rfl), List.append_nil] at hsn
          replace HS := Lib.hid hsn.symm
          clear hsn
          go_wp2_with fail
          refine R1.out.mono ?_
          rintro e w1 ⟨rfl, hb⟩
          replace ho := OwnI.below ho hb
          replace hB := hB.trans (Below.mono hb hB.size)
          have hz_w1 : wr.heap.size ≤ w1.heap.size := Below.size hb
          clear hb
          go_wp2_with fail
          refine (R2.out _ hB).mono ?_
          rintro e w2 ⟨rfl, hb⟩
          replace ho := OwnI.below ho hb
          replace hB := hB.trans (Below.mono hb hB.size)
          have hz_w2 : w1.heap.size ≤ w2.heap.size := Below.size hb
          clear hb
          have f1 : w2.cell? ⟨bb, oo + ka * 3 + 1, none⟩ = some (.int .i64 x2) := (hB.cell (p := ⟨bb, _, none⟩) hbb).trans i1
          have f2 : w2.cell? ⟨bb, oo + ka * 3 + 2, none⟩ = some (.int .i64 x3) := (hB.cell (p := ⟨bb, _, none⟩) hbb).trans i2
          have f3 : w2.cell? ⟨bb', oo' + kb * 3 + 1, none⟩ = some (.int .i64 x2) := (hB.cell (p := ⟨bb', _, none⟩) hbb').trans j1
          have f4 : w2.cell? ⟨bb', oo' + kb * 3 + 2, none⟩ = some (.int .i64 x3) := (hB.cell (p := ⟨bb', _, none⟩) hbb').trans j2
          clear i1 i2 j1 j2
          go_wp2_with fail
          go_quiet (fail)
          go_wp2_with fail
          go_roundw
          case rel => exact ⟨k + 1, A', c', out, by omega, by go_num, rfl, HS.out, ho, by exact tacT⟩
          case measure => simp [intOf]; omega
    · have hg : ¬ ((1 + k : Nat) : Int) ≤ 999 := by omega
      have hk9 : k = 999 := by omega
      have HE : Hid (deedDiff l m = out) := by show _ = _; rw [E.out, HS.out, hk9]
      clear hk9
      go_wp2_with fail
      go_ret
      rw [HE.out]
      exact ⟨A', c', rfl, ho, hB⟩
end Go.Proofs.YtpmmjhpmheooeaaDoor
