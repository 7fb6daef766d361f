/- YearsOk, RankOf, RecordYears. -/
import Derived.Test.YtnedbdpcimhfgaaApp
import Derived.Test.YtnedbdpcimhfgaaQueue
namespace Go.Proofs.Ytnedbdpcimhfgaa
open Go.RowKit
def yearsOk (l : List Int) : Bool := allIn l 0 100000 && inB l.length 1 60
set_option maxHeartbeats 400000 in
theorem YearsOkS_any (A : Option Addr) (c : Nat) (l : List Int) (w : World) (h : RdI w w.heap.size A c l) :
    Calls Try.prog 75 #[.slice A l.length c] w fun e w' => e = .returned (.bool (yearsOk l)) ∧ w = w' := by
  unfold yearsOk
  obtain ⟨hl, hm⟩ := h.le
  go_enter Try.func75, Try.ntmps75
  go_wp2
  go_loop [3] (fun i => ∃ k : Nat, k ≤ l.length ∧ i = .int .i64 k ∧ allIn l 0 100000 = allIn (l.drop k) 0 100000) (fun i => l.length - (intOf i).toNat)
  case atStart => exact ⟨0, Nat.zero_le _, rfl, rfl⟩
  case round =>
    obtain ⟨k, hk, rfl, hr⟩ := hrel
    have HR := Lib.hid hr; clear hr
    by_cases hlt : k < l.length
    · obtain ⟨b, o, x, rfl, hb, hx, hcell⟩ := h.at_ hlt
      have HX := Lib.hid hx; clear hx
      cases hin : inB x 0 100000
      · go_wp2_with (go_at_call 77; refine (l01In_any x 0 100000 _).mono ?_; rintro e w' ⟨rfl, rfl⟩)
        go_ret
        exact ⟨by rw [HR.out, drop_cons HX.out, allIn_cons, hin]; rfl, rfl⟩
      · go_wp2_with (go_at_call 77; refine (l01In_any x 0 100000 _).mono ?_; rintro e w' ⟨rfl, rfl⟩)
        go_round
        case rel => exact ⟨k + 1, by omega, by go_num, by rw [HR.out, drop_cons HX.out, allIn_cons, hin]; rfl⟩
        case measure => simp [intOf]; omega
    · go_wp2_with (go_at_call 77; refine (l01In_any _ 1 60 _).mono ?_; rintro e w' ⟨rfl, rfl⟩)
      go_ret
      exact ⟨ret_bool (by rw [HR.out, drop_end hlt, allIn_nil]; simp), rfl⟩
set_option maxHeartbeats 400000 in
theorem YearsOk_any (A : Option Addr) (c : Nat) (l : List Int) (w : World) (h : RdI w w.heap.size A c l) :
    Calls Try.prog 52 #[.slice A l.length c] w fun e w' => e = .returned (.bool (yearsOk l)) ∧ w = w' := by
  unfold yearsOk
  obtain ⟨hl, hm⟩ := h.le
  cases h12 : inB l.length 1 60
  all_goals
    go_enter Try.func52, Try.ntmps52
    go_wp2_with (first | (go_at_call 74; refine (allWithin_any A c l 0 100000 _ h).mono ?_; rintro e w' ⟨rfl, rfl⟩) | (go_at_call 65; refine (within_any _ 1 60 _).mono ?_; rintro e w' ⟨rfl, rfl⟩))
    go_ret
    exact ⟨ret_bool (by simp), rfl⟩
def cnt : List Int → Int → Int
  | [], _ => 0
  | y :: l, x => (if y < x then 1 else 0) + cnt l x
theorem cnt_nn : ∀ (l : List Int) (x : Int), 0 ≤ cnt l x
  | [], _ => Int.le_refl _
  | y :: l, x => by have := cnt_nn l x; unfold cnt; split <;> omega
theorem cnt_le : ∀ (l : List Int) (x : Int), cnt l x ≤ l.length
  | [], _ => Int.le_refl _
  | y :: l, x => by have := cnt_le l x; unfold cnt; simp only [List.length_cons]; split <;> omega
def rankOf (l : List Int) (k : Int) : Int := if yearsOk l && inB k 0 (l.length - 1) then cnt l (l.getD k.toNat 0) else -1
theorem rankOf_no {l : List Int} {k : Int} (h : yearsOk l = false ∨ inB k 0 (l.length - 1) = false) : rankOf l k = -1 := by
  unfold rankOf; rcases h with h | h <;> simp [h]
set_option maxHeartbeats 400000 in
theorem RankOf_any (A : Option Addr) (c : Nat) (l : List Int) (kk : Int) (w : World) (h : RdI w w.heap.size A c l) :
    Calls Try.prog 50 #[.slice A l.length c, .int .i64 kk] w fun e w' => e = .returned (.int .i64 (rankOf l kk)) ∧ w = w' := by
  obtain ⟨hl, hm⟩ := h.le
  cases hy : yearsOk l
  · go_enter Try.func50, Try.ntmps50
    go_wp2_with (go_at_call 52; refine (YearsOk_any A c l _ h).mono ?_; rintro e w' ⟨rfl, rfl⟩)
    go_ret
    exact ⟨ret_int (rankOf_no (.inl hy)).symm, rfl⟩
  cases hq : inB kk 0 (l.length - 1)
  · go_enter Try.func50, Try.ntmps50
    go_wp2_with (first | (go_at_call 52; refine (YearsOk_any A c l _ h).mono ?_; rintro e w' ⟨rfl, rfl⟩) | (go_at_call 65; refine (within_any _ _ _ _).mono ?_; rintro e w' ⟨rfl, rfl⟩))
    go_ret
    exact ⟨ret_int (rankOf_no (.inr hq)).symm, rfl⟩
  have hk := inB_iff.1 hq
  obtain ⟨kn, rfl⟩ := Int.eq_ofNat_of_zero_le hk.1
  have hkn : kn < l.length := by omega
  have hfin : rankOf l kn = cnt l (l.getD kn 0) := by unfold rankOf; rw [hy, hq]; rfl
  have HF := Lib.hid hfin; clear hfin
  obtain ⟨b, o, z, rfl, hb, hz, hcz⟩ := h.at_ hkn
  have HZ := Lib.hid hz; clear hz
  have hyl : l.length ≤ 60 := by unfold yearsOk at hy; simp [inB] at hy; omega
  clear hk
  go_enter Try.func50, Try.ntmps50
  go_wp2_with (first | (go_at_call 52; refine (YearsOk_any (some ⟨b, o, none⟩) c l _ h).mono ?_; rintro e w' ⟨rfl, rfl⟩) | (go_at_call 65; refine (within_any _ _ _ _).mono ?_; rintro e w' ⟨rfl, rfl⟩))
  go_loop [5, 21] (fun n i => ∃ (k : Nat) (m : Int), k ≤ l.length ∧ i = .int .i64 k ∧ n = .int .i64 m ∧ m + cnt (l.drop k) z = cnt l z ∧ 0 ≤ m ∧ m ≤ k) (fun _ i => l.length - (intOf i).toNat)
  case atStart => exact ⟨0, 0, Nat.zero_le _, rfl, rfl, by simp, by omega, by omega⟩
  case round =>
    obtain ⟨k, m, hk, rfl, rfl, hr, hm0, hmk⟩ := hrel
    have HR := Lib.hid hr; clear hr
    by_cases hlt : k < l.length
    · obtain ⟨b', o', x, hA, hb', hx, hcell⟩ := h.at_ hlt
      simp only [Option.some.injEq, Addr.mk.injEq, and_true] at hA
      obtain ⟨rfl, rfl⟩ := hA
      have HX := Lib.hid hx; clear hx
      have hs := HR.out
      rw [drop_cons HX.out, cnt] at hs
      by_cases hxz : x < z
      · rw [if_pos hxz] at hs
        have HS := Lib.hid hs; clear hs
        go_wp2
        go_round
        case rel => exact ⟨k + 1, m + 1, by omega, by go_num, rfl, by have := HS.out; omega, by omega, by omega⟩
        case measure => simp [intOf]; omega
      · rw [if_neg hxz] at hs
        have HS := Lib.hid hs; clear hs
        go_wp2
        go_round
        case rel => exact ⟨k + 1, m, by omega, by go_num, rfl, by have := HS.out; omega, by omega, by omega⟩
        case measure => simp [intOf]; omega
    · go_wp2
      go_ret
      have hs := HR.out
      rw [drop_end hlt, cnt] at hs
      exact ⟨ret_int (by rw [HF.out, List.getD_eq_getElem?_getD, HZ.out]; simp; omega), rfl⟩
def recGo : List Int → Nat → Int → List Int
  | [], _, _ => []
  | x :: l, k, most => if most < x then (k : Int) :: recGo l (k + 1) x else recGo l (k + 1) most
theorem recGo_cons (x : Int) (l : List Int) (k : Nat) (most : Int) : recGo (x :: l) k most = if most < x then (k : Int) :: recGo l (k + 1) x else recGo l (k + 1) most := rfl
theorem recGo_len : ∀ (l : List Int) (k : Nat) (m : Int), (recGo l k m).length ≤ l.length
  | [], _, _ => Nat.le_refl _
  | x :: l, k, m => by
    rw [recGo_cons]
    have h1 := recGo_len l (k + 1) x
    have h2 := recGo_len l (k + 1) m
    split <;> simp only [List.length_cons] <;> omega
def records (l : List Int) : List Int := if yearsOk l then recGo l 0 (-1) else []
set_option maxHeartbeats 400000 in
theorem RecordYears_any (A : Option Addr) (c : Nat) (l : List Int) (w : World) (h : RdI w w.heap.size A c l) :
    Calls Try.prog 48 #[.slice A l.length c] w fun e w' => ∃ A' c', e = .returned (.slice A' (records l).length c') ∧ OwnI w' w.heap.size A' c' (records l) ∧ Below w.heap.size w w' := by
  obtain ⟨hl, hm⟩ := h.le
  cases hy : yearsOk l
  · have e0 : records l = [] := by unfold records; rw [hy]; rfl
    have HE := Lib.hid e0; clear e0
    go_enter Try.func48, Try.ntmps48
    go_wp2_with (go_at_call 52; refine (YearsOk_any A c l _ h).mono ?_; rintro e w' ⟨rfl, rfl⟩)
    go_ret
    rw [HE.out]
    exact ⟨none, 0, rfl, own_nil _ _, Below.refl _ _⟩
  have e0 : records l = recGo l 0 (-1) := by unfold records; rw [hy]; rfl
  have HE := Lib.hid e0; clear e0
  have hyl : l.length ≤ 60 := by unfold yearsOk at hy; simp [inB] at hy; omega
  go_enter Try.func48, Try.ntmps48
  go_wp2_with (go_at_call 52; refine (YearsOk_any A c l _ h).mono ?_; rintro e w' ⟨rfl, rfl⟩)
  go_loopw [3, 4, 12] (fun v mo i wr => ∃ (k : Nat) (most : Int) (A' : Option Addr) (c' : Nat) (out : List Int), k ≤ l.length ∧ i = .int .i64 k ∧ mo = .int .i64 most ∧ v = .slice A' out.length c' ∧ OwnI wr w.heap.size A' c' out ∧ Below w.heap.size w wr ∧ out ++ recGo (l.drop k) k most = recGo l 0 (-1)) (fun _ _ i _ => l.length - (intOf i).toNat)
  case atStart => exact ⟨0, -1, none, 0, [], Nat.zero_le _, rfl, rfl, rfl, own_nil _ _, Below.refl _ _, rfl⟩
  case round =>
    obtain ⟨k, most, A', c', out, hk, rfl, rfl, rfl, ho, hb, hr⟩ := hrel
    have hol : out.length ≤ 60 := by have := congrArg List.length hr; have := recGo_len l 0 (-1); rw [List.length_append] at *; omega
    have HR := Lib.hid hr; clear hr
    have hbs := hb.size
    have HB := Lib.hid hb; clear hb
    by_cases hlt : k < l.length
    · obtain ⟨b, o, x, rfl, hbb, hx, hcell⟩ := h.at_ hlt
      have hcx : wr.cell? ⟨b, o + k, none⟩ = some (.int .i64 x) := (HB.out.cell (p := ⟨b, o + k, none⟩) hbb).trans hcell
      have HX := Lib.hid hx; clear hx hcell
      have hs := HR.out
      rw [drop_cons HX.out, recGo_cons] at hs
      by_cases hmx : most < x
      · rw [if_pos hmx] at hs
        have HS := Lib.hid hs; clear hs
        have ho1 : OwnI (wr.alloc (.cells #[.int .i64 k] 3)) w.heap.size A' c' out := ho.alloc _
        clear ho
        go_wp2_with (at_builtin; go_loud (refine wpList_app1 rfl _ _ rfl w.heap.size A' c' out rfl ho1 wr.heap.size k rfl (cell_new1 _ _ _) (by omega) (by simp; omega) ?_))
        intro A2 c2 w2 ho2 hg2
        have hb2 := below_grown_own (HB.out.alloc hbs _) ho1 hg2 (Nat.le_refl _) (by simp; omega)
        have H2 := Lib.hid (And.intro ho2 hb2)
        clear ho2 hb2 hg2 ho1
        go_wp2
        go_roundw
        case rel => exact ⟨k + 1, x, A2, c2, out ++ [(k : Int)], by omega, by go_num, rfl, by rw [List.length_append]; rfl, H2.out.1, H2.out.2, by rw [List.append_assoc]; exact HS.out⟩
        case measure => simp [intOf]; omega
      · rw [if_neg hmx] at hs
        have HS := Lib.hid (And.intro hs ho); clear hs ho
        go_wp2
        go_roundw
        case rel => exact ⟨k + 1, most, A', c', out, by omega, by go_num, rfl, rfl, HS.out.2, HB.out, HS.out.1⟩
        case measure => simp [intOf]; omega
    · have hs := HR.out
      rw [drop_end hlt] at hs
      have HS := Lib.hid (And.intro hs ho); clear hs ho
      go_wp2
      go_ret
      have e1 : records l = out := by rw [HE.out, ← HS.out.1]; simp [recGo]
      rw [e1]
      exact ⟨_, _, rfl, HS.out.2, HB.out⟩
end Go.Proofs.Ytnedbdpcimhfgaa
