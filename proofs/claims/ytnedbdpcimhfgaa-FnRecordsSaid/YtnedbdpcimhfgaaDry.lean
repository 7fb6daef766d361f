/- DryYears, LongestDrought. -/
import Derived.Test.YtnedbdpcimhfgaaSortY
namespace Go.Proofs.Ytnedbdpcimhfgaa
open Go.RowKit
set_option maxRecDepth 20000
/-- The places of the numbers below a hundredth of t. -/
def dryGo (t : Int) : List Int → Nat → List Int
  | [], _ => []
  | x :: l, k => if x * 100 < t then (k : Int) :: dryGo t l (k + 1) else dryGo t l (k + 1)
theorem dryGo_cons (t x : Int) (l : List Int) (k : Nat) : dryGo t (x :: l) k = if x * 100 < t then (k : Int) :: dryGo t l (k + 1) else dryGo t l (k + 1) := rfl
theorem dryGo_len (t : Int) : ∀ (l : List Int) (k : Nat), (dryGo t l k).length ≤ l.length
  | [], _ => Nat.le_refl _
  | x :: l, k => by
    rw [dryGo_cons]
    have := dryGo_len t l (k + 1)
    split <;> simp only [List.length_cons] <;> omega
theorem dryGo_ge (t : Int) : ∀ (l : List Int) (k : Nat) (x : Int), x ∈ dryGo t l k → ∃ j : Nat, x = (j : Int) ∧ k ≤ j ∧ j < k + l.length
  | [], k, x, h => by cases h
  | y :: l, k, x, h => by
    rw [dryGo_cons] at h
    have tl : x ∈ dryGo t l (k + 1) → ∃ j : Nat, x = (j : Int) ∧ k ≤ j ∧ j < k + (y :: l).length := fun h => by
      obtain ⟨j, h1, h2, h3⟩ := dryGo_ge t l (k + 1) x h
      exact ⟨j, h1, by omega, by simp only [List.length_cons]; omega⟩
    split at h
    · rcases List.mem_cons.1 h with rfl | h
      · exact ⟨k, rfl, Nat.le_refl _, by simp only [List.length_cons]; omega⟩
      · exact tl h
    · exact tl h
def dryY (l : List Int) (p : Int) : List Int := if yearsOk l && inB p 0 100 then dryGo (p * middleY l) l 0 else []
theorem dryY_no {l : List Int} {p : Int} (h : yearsOk l = false ∨ inB p 0 100 = false) : dryY l p = [] := by
  unfold dryY; rcases h with h | h <;> simp [h]
theorem dryY_yes {l : List Int} {p : Int} (h : yearsOk l = true) (h' : inB p 0 100 = true) : dryY l p = dryGo (p * middleY l) l 0 := by
  unfold dryY; simp [h, h']
theorem dryY_len (l : List Int) (p : Int) : (dryY l p).length ≤ l.length := by
  unfold dryY
  split
  · exact dryGo_len _ _ _
  · simp
theorem dryY_mem {l : List Int} {p x : Int} (h : x ∈ dryY l p) : ∃ j : Nat, x = (j : Int) ∧ j < l.length := by
  unfold dryY at h
  split at h
  · obtain ⟨j, h1, _, h3⟩ := dryGo_ge _ _ _ _ h
    exact ⟨j, h1, by omega⟩
  · cases h
/-- The longest run of numbers in a row. -/
def lonGo : List Int → Int → Int → Int → Int
  | [], best, _, _ => best
  | x :: d, best, n, last => if x = last + 1 then lonGo d (max best (n + 1)) (n + 1) x else lonGo d (max best 1) 1 x
theorem lonGo_cons (x : Int) (d : List Int) (best n last : Int) : lonGo (x :: d) best n last = if x = last + 1 then lonGo d (max best (n + 1)) (n + 1) x else lonGo d (max best 1) 1 x := rfl
def longY (l : List Int) (p : Int) : Int := if yearsOk l && inB p 0 100 then lonGo (dryY l p) 0 0 (-2) else -1
theorem longY_no {l : List Int} {p : Int} (h : yearsOk l = false ∨ inB p 0 100 = false) : longY l p = -1 := by
  unfold longY; rcases h with h | h <;> simp [h]
theorem longY_yes {l : List Int} {p : Int} (h : yearsOk l = true) (h' : inB p 0 100 = true) : longY l p = lonGo (dryY l p) 0 0 (-2) := by
  unfold longY; simp [h, h']
theorem middleY_range {l : List Int} (h : yearsOk l = true) : 0 ≤ middleY l ∧ middleY l ≤ 100000 := by
  obtain ⟨x, _, h1, h2, h3⟩ := middleY_yes h
  omega
set_option maxHeartbeats 1600000 in
theorem DryYears_any (A : Option Addr) (c : Nat) (l : List Int) (p : Int) (w : World) (h : RdI w w.heap.size A c l) :
    Calls Try.prog 44 #[.slice A l.length c, .int .i64 p] w fun e w' => ∃ A' c', e = .returned (.slice A' (dryY l p).length c') ∧ OwnI w' w.heap.size A' c' (dryY l p) ∧ Below w.heap.size w w' := by
  obtain ⟨hl, hm⟩ := h.le
  have hB := Below.refl w.heap.size w
  cases hy : yearsOk l
  · have E := Lib.hid (dryY_no (p := p) (.inl hy))
    go_enter Try.func44, Try.ntmps44
    go_wp2_with (go_at_call 52; refine (YearsOk_any A c l _ h).mono ?_; rintro e w' ⟨rfl, rfl⟩)
    go_ret
    rw [E.out]
    exact ⟨none, 0, rfl, own_nil _ _, by repeat' (first | (with_reducible exact Below.refl _ _) | (with_reducible assumption) | (with_reducible refine Below.alloc ?_ ?_ _) | (with_reducible refine Below.setCell ?_ ?_ _) | (with_reducible refine Below.drew ?_) | (with_reducible refine below_drewN ?_ _) | (refine Below.trans ?_ (Below.mono (by with_reducible assumption) ?_)) | omega | (simp; done) | (simp; omega))⟩
  cases hp : inB p 0 100
  · have E := Lib.hid (dryY_no (l := l) (.inr hp))
    go_enter Try.func44, Try.ntmps44
    go_wp2_with (first | (go_at_call 52; refine (YearsOk_any A c l _ h).mono ?_; rintro e w' ⟨rfl, rfl⟩) | (go_at_call 65; refine (within_any _ _ _ _).mono ?_; rintro e w' ⟨rfl, rfl⟩))
    go_ret
    rw [E.out]
    exact ⟨none, 0, rfl, own_nil _ _, by repeat' (first | (with_reducible exact Below.refl _ _) | (with_reducible assumption) | (with_reducible refine Below.alloc ?_ ?_ _) | (with_reducible refine Below.setCell ?_ ?_ _) | (with_reducible refine Below.drew ?_) | (with_reducible refine below_drewN ?_ _) | (refine Below.trans ?_ (Below.mono (by with_reducible assumption) ?_)) | omega | (simp; done) | (simp; omega))⟩
  have E := Lib.hid (dryY_yes hy hp)
  have hmr := middleY_range hy
  have hpp := inB_iff.1 hp
  have hyl := (yearsOk_iff hy).2
  have HALL := Lib.hid (yearsOk_iff hy).1
  obtain ⟨m, hm1⟩ : ∃ m, m = middleY l := ⟨_, rfl⟩
  rw [← hm1] at hmr E
  have hpm : 0 ≤ p * m ∧ p * m ≤ 100 * 100000 := by
    obtain ⟨pn, rfl⟩ := Int.eq_ofNat_of_zero_le hpp.1
    obtain ⟨mn, rfl⟩ := Int.eq_ofNat_of_zero_le hmr.1
    have : pn * mn ≤ 100 * 100000 := Nat.mul_le_mul (by omega) (by omega)
    constructor
    · exact Int.mul_nonneg (by omega) (by omega)
    · rw [← Int.natCast_mul]; omega
  have H2 : Hid (∀ W, Below w.heap.size w W → Calls Try.prog 40 #[.slice A l.length c] W fun e w' => e = .returned (.int .i64 m) ∧ Below W.heap.size W w') := fun W hb => by rw [hm1]; exact MiddleYear_any A c l W (h.below hb)
  clear hm1
  go_enter Try.func44, Try.ntmps44
  go_wp2_with (first | (go_at_call 52; refine (YearsOk_any A c l _ h).mono ?_; rintro e w' ⟨rfl, rfl⟩) | (go_at_call 65; refine (within_any _ _ _ _).mono ?_; rintro e w' ⟨rfl, rfl⟩))
  go_loopw [5, 18] (fun v i wr => ∃ (k : Nat) (A' : Option Addr) (c' : Nat) (out : List Int), k ≤ l.length ∧ i = .int .i64 k ∧ v = .slice A' out.length c' ∧ Hid (OwnI wr w.heap.size A' c' out) ∧ Hid (Below w.heap.size w wr) ∧ Hid (out ++ dryGo (p * m) (l.drop k) k = dryGo (p * m) l 0)) (fun _ i _ => l.length - (intOf i).toNat)
  case atStart => exact ⟨0, none, 0, [], Nat.zero_le _, rfl, rfl, own_nil _ _, hB, rfl⟩
  case round =>
    clear hB
    obtain ⟨k, A', c', out, hk, rfl, rfl, HO, HB, HR⟩ := hrel
    have hol : out.length ≤ 60 := by have := congrArg List.length HR.out; have := dryGo_len (p * m) l 0; rw [List.length_append] at *; omega
    have hbs := HB.out.size
    by_cases hlt : k < l.length
    · obtain ⟨b, o, x, rfl, hbb, hx, hcell⟩ := h.at_ hlt
      have hcx : wr.cell? ⟨b, o + k, none⟩ = some (.int .i64 x) := (HB.out.cell (p := ⟨b, o + k, none⟩) hbb).trans hcell
      have hxb := allIn_mem HALL.out hx
      have hs := HR.out
      rw [drop_cons hx, dryGo_cons] at hs
      clear hx hcell
      by_cases hmx : x * 100 < p * m
      · rw [if_pos hmx] at hs
        have HS := Lib.hid hs; clear hs
        go_wp2_with fail
        refine (H2.out _ HB.out).mono ?_
        rintro e w1 ⟨rfl, hb⟩
        have ho1 := (OwnI.below HO.out hb).alloc (.cells #[.int .i64 k] 3)
        have hb1 := HB.out.trans (hb.mono hbs)
        have hbs1 := hb1.size
        clear hcx
        go_wp2_with (at_builtin; refine wpList_app1 rfl _ _ rfl w.heap.size A' c' out rfl ho1 w1.heap.size k rfl (cell_new1 _ _ _) (by omega) (by first | omega | (simp; omega)) ?_)
        intro A2 c2 w2 ho2 hg2
        have hb2 := below_grown_own (hb1.alloc hbs1 _) ho1 hg2 (Nat.le_refl _) (by first | omega | (simp; omega))
        have H3 := Lib.hid (And.intro ho2 hb2)
        clear ho2 hb2 hg2 ho1 hb hb1
        go_wp2_with fail
        go_roundw
        case rel => exact ⟨k + 1, A2, c2, out ++ [(k : Int)], by omega, by go_num, by rw [List.length_append]; rfl, H3.out.1, H3.out.2, (by show _ = _; rw [List.append_assoc]; exact HS.out)⟩
        case measure => simp [intOf]; omega
      · rw [if_neg hmx] at hs
        have HS := Lib.hid hs; clear hs
        go_wp2_with fail
        refine (H2.out _ HB.out).mono ?_
        rintro e w1 ⟨rfl, hb⟩
        have H3 := Lib.hid (And.intro (OwnI.below HO.out hb) (HB.out.trans (hb.mono hbs)))
        clear hb hcx
        go_wp2_with fail
        go_roundw
        case rel => exact ⟨k + 1, A', c', out, by omega, by go_num, rfl, H3.out.1, H3.out.2, HS.out⟩
        case measure => simp [intOf]; omega
    · have hs := HR.out
      rw [drop_end hlt] at hs
      have HS : Hid (dryY l p = out) := by show _ = _; rw [E.out, ← hs]; simp [dryGo]
      clear hs
      go_wp2_with fail
      go_ret
      rw [HS.out]
      exact ⟨_, _, rfl, HO.out, HB.out⟩
set_option maxHeartbeats 1600000 in
theorem DryYearsS_any (A : Option Addr) (c : Nat) (l : List Int) (p : Int) (w : World) (h : RdI w w.heap.size A c l) :
    Calls Try.prog 43 #[.slice A l.length c, .int .i64 p] w fun e w' => ∃ A' c', e = .returned (.slice A' (dryY l p).length c') ∧ OwnI w' w.heap.size A' c' (dryY l p) ∧ Below w.heap.size w w' := by
  obtain ⟨hl, hm⟩ := h.le
  have hb1 : Below w.heap.size w (w.alloc (.cells #[] 3)) := (Below.refl _ _).alloc (Nat.le_refl _) _
  have ho1 : OwnI (w.alloc (.cells #[] 3)) w.heap.size (some ⟨w.heap.size, 0, none⟩) 0 [] := World.ownsRow_made w #[] 0 (Nat.le_refl _) (by unfold maxLen; omega) (by simp)
  have H1 := Lib.hid (MiddleYearS_any A c l _ (h.below hb1))
  have H0 := Lib.hid (And.intro hb1 ho1)
  have hz1 := hb1.size
  clear hb1 ho1
  cases hy : yearsOk l
  · have E := Lib.hid (dryY_no (p := p) (.inl hy))
    have hmy := middleY_no hy
    rw [hmy] at H1
    by_cases h0 : (0 : Int) < l.length
    all_goals
      go_enter Try.func43, Try.ntmps43
      go_wp2_with fail
      refine H1.out.mono ?_
      rintro e w2 ⟨rfl, hb⟩
      have H2 := Lib.hid (And.intro (OwnI.below H0.out.2 hb) (H0.out.1.trans (hb.mono hz1)))
      clear hb
      go_wp2_with fail
      refine wp_loop_rounds 1 ?_
      rw [rounds_succ]
      go_wp2_with fail
      go_ret
      rw [E.out]
      exact ⟨_, _, rfl, H2.out.1, H2.out.2⟩
  have hmr := middleY_range hy
  have hyl := (yearsOk_iff hy).2
  have hl0 : (0 : Int) < l.length := by omega
  have HALL := Lib.hid (yearsOk_iff hy).1
  obtain ⟨m, hm1⟩ : ∃ m, m = middleY l := ⟨_, rfl⟩
  rw [← hm1] at hmr H1
  cases hp : inB p 0 100
  · have E := Lib.hid (dryY_no (l := l) (.inr hp))
    go_enter Try.func43, Try.ntmps43
    go_wp2_with fail
    refine H1.out.mono ?_
    rintro e w2 ⟨rfl, hb⟩
    have H2 := Lib.hid (And.intro (OwnI.below H0.out.2 hb) (H0.out.1.trans (hb.mono hz1)))
    clear hb
    go_wp2_with fail
    refine wp_loop_rounds 1 ?_
    rw [rounds_succ]
    go_wp2_with (go_at_call 77; refine (l01In_any _ _ _ _).mono ?_; rintro e w' ⟨rfl, rfl⟩)
    go_ret
    rw [E.out]
    exact ⟨_, _, rfl, H2.out.1, H2.out.2⟩
  have E := Lib.hid (dryY_yes hy hp)
  rw [← hm1] at E
  have hpp := inB_iff.1 hp
  have hpm : 0 ≤ p * m ∧ p * m ≤ 100 * 100000 := by
    obtain ⟨pn, rfl⟩ := Int.eq_ofNat_of_zero_le hpp.1
    obtain ⟨mn, rfl⟩ := Int.eq_ofNat_of_zero_le hmr.1
    have : pn * mn ≤ 100 * 100000 := Nat.mul_le_mul (by omega) (by omega)
    constructor
    · exact Int.mul_nonneg (by omega) (by omega)
    · rw [← Int.natCast_mul]; omega
  clear hm1
  go_enter Try.func43, Try.ntmps43
  go_wp2_with fail
  refine H1.out.mono ?_
  rintro e w2 ⟨rfl, hb⟩
  have H2 := Lib.hid (And.intro (OwnI.below H0.out.2 hb) (H0.out.1.trans (hb.mono hz1)))
  clear hb
  go_wp2_with fail
  go_loopw [5, 7] (fun v i wr => ∃ (k : Nat) (A' : Option Addr) (c' : Nat) (out : List Int), k ≤ l.length ∧ i = .int .i64 k ∧ v = .slice A' out.length c' ∧ Hid (OwnI wr w.heap.size A' c' out) ∧ Hid (Below w.heap.size w wr) ∧ Hid (out ++ dryGo (p * m) (l.drop k) k = dryGo (p * m) l 0)) (fun _ i _ => l.length - (intOf i).toNat)
  case atStart => exact ⟨0, some ⟨w.heap.size, 0, none⟩, 0, [], Nat.zero_le _, rfl, rfl, H2.out.1, H2.out.2, rfl⟩
  case round =>
    obtain ⟨k, A', c', out, hk, rfl, rfl, HO, HB, HR⟩ := hrel
    have hol : out.length ≤ 60 := by have := congrArg List.length HR.out; have := dryGo_len (p * m) l 0; rw [List.length_append] at *; omega
    have hbs := HB.out.size
    by_cases hlt : k < l.length
    · obtain ⟨b, o, x, rfl, hbb, hx, hcell⟩ := h.at_ hlt
      have hcx : wr.cell? ⟨b, o + k, none⟩ = some (.int .i64 x) := (HB.out.cell (p := ⟨b, o + k, none⟩) hbb).trans hcell
      have hxb := allIn_mem HALL.out hx
      have hs := HR.out
      rw [drop_cons hx, dryGo_cons] at hs
      have hkl : (k : Int) < (l.length : Int) := by omega
      clear hx hcell
      by_cases hmx : x * 100 < p * m
      · rw [if_pos hmx] at hs
        have HS := Lib.hid hs; clear hs
        have ho1 : OwnI (wr.alloc (.cells #[.int .i64 k] 3)) w.heap.size A' c' out := HO.out.alloc _
        go_wp2_with (first | (go_at_call 77; refine (l01In_any _ _ _ _).mono ?_; rintro e w' ⟨rfl, rfl⟩) | (at_builtin; refine wpList_app1 rfl _ _ rfl w.heap.size A' c' out rfl ho1 wr.heap.size k rfl (cell_new1 _ _ _) (by omega) (by first | omega | (simp; omega)) ?_))
        intro A2 c2 w2 ho2 hg2
        have hb2 := below_grown_own (HB.out.alloc hbs _) ho1 hg2 (Nat.le_refl _) (by first | omega | (simp; omega))
        have H3 := Lib.hid (And.intro ho2 hb2)
        clear ho2 hb2 hg2 ho1
        go_wp2_with fail
        go_roundw
        case rel => exact ⟨k + 1, A2, c2, out ++ [(k : Int)], by omega, by go_num, by rw [List.length_append]; rfl, H3.out.1, H3.out.2, (by show _ = _; rw [List.append_assoc]; exact HS.out)⟩
        case measure => simp [intOf]; omega
      · rw [if_neg hmx] at hs
        have HS := Lib.hid hs; clear hs
        go_wp2_with (go_at_call 77; refine (l01In_any _ _ _ _).mono ?_; rintro e w' ⟨rfl, rfl⟩)
        go_roundw
        case rel => exact ⟨k + 1, A', c', out, by omega, by go_num, rfl, HO.out, HB.out, HS.out⟩
        case measure => simp [intOf]; omega
    · have hkl : ¬ (k : Int) < (l.length : Int) := by omega
      have hs := HR.out
      rw [drop_end hlt] at hs
      have HS : Hid (dryY l p = out) := by show _ = _; rw [E.out, ← hs]; simp [dryGo]
      clear hs
      go_wp2_with fail
      go_ret
      rw [HS.out]
      exact ⟨_, _, rfl, HO.out, HB.out⟩
end Go.Proofs.Ytnedbdpcimhfgaa
