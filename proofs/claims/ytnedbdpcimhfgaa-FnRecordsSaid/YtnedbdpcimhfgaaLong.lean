/- LongestDrought. -/
import Derived.Test.YtnedbdpcimhfgaaDry
namespace Go.Proofs.Ytnedbdpcimhfgaa
open Go.RowKit
set_option maxRecDepth 20000
theorem lonGo_range : ∀ (d : List Int) (best n last : Int), 0 ≤ best → best ≤ lonGo d best n last
  | [], _, _, _, _ => Int.le_refl _
  | x :: d, best, n, last, h => by
    rw [lonGo_cons]
    split
    · exact Int.le_trans (Int.le_max_left ..) (lonGo_range d _ _ _ (Int.le_trans h (Int.le_max_left ..)))
    · exact Int.le_trans (Int.le_max_left ..) (lonGo_range d _ _ _ (Int.le_trans h (Int.le_max_left ..)))
set_option maxHeartbeats 1600000 in
theorem LongestDrought_any (A : Option Addr) (c : Nat) (l : List Int) (p : Int) (w : World) (h : RdI w w.heap.size A c l) :
    Calls Try.prog 46 #[.slice A l.length c, .int .i64 p] w fun e w' => e = .returned (.int .i64 (longY l p)) ∧ Below w.heap.size w w' := by
  obtain ⟨hl, hm⟩ := h.le
  have hB := Below.refl w.heap.size w
  cases hy : yearsOk l
  · have E := Lib.hid (longY_no (p := p) (.inl hy))
    go_enter Try.func46, Try.ntmps46
    go_wp2_with (go_at_call 52; refine (YearsOk_any A c l _ h).mono ?_; rintro e w' ⟨rfl, rfl⟩)
    go_ret
    exact ⟨ret_int E.out.symm, by repeat' (first | (with_reducible exact Below.refl _ _) | (with_reducible assumption) | (with_reducible refine Below.alloc ?_ ?_ _) | (with_reducible refine Below.setCell ?_ ?_ _) | (with_reducible refine Below.drew ?_) | (with_reducible refine below_drewN ?_ _) | (refine Below.trans ?_ (Below.mono (by with_reducible assumption) ?_)) | omega | (simp; done) | (simp; omega))⟩
  cases hp : inB p 0 100
  · have E := Lib.hid (longY_no (l := l) (.inr hp))
    go_enter Try.func46, Try.ntmps46
    go_wp2_with (first | (go_at_call 52; refine (YearsOk_any A c l _ h).mono ?_; rintro e w' ⟨rfl, rfl⟩) | (go_at_call 65; refine (within_any _ _ _ _).mono ?_; rintro e w' ⟨rfl, rfl⟩))
    go_ret
    exact ⟨ret_int E.out.symm, by repeat' (first | (with_reducible exact Below.refl _ _) | (with_reducible assumption) | (with_reducible refine Below.alloc ?_ ?_ _) | (with_reducible refine Below.setCell ?_ ?_ _) | (with_reducible refine Below.drew ?_) | (with_reducible refine below_drewN ?_ _) | (refine Below.trans ?_ (Below.mono (by with_reducible assumption) ?_)) | omega | (simp; done) | (simp; omega))⟩
  have E := Lib.hid (longY_yes hy hp)
  have hyl := (yearsOk_iff hy).2
  have hdl := dryY_len l p
  have HD : Hid (∀ x ∈ dryY l p, ∃ j : Nat, x = (j : Int) ∧ j < l.length) := fun x hx => dryY_mem hx
  go_enter Try.func46, Try.ntmps46
  go_wp2_with (first | (go_at_call 52; refine (YearsOk_any A c l _ h).mono ?_; rintro e w' ⟨rfl, rfl⟩) | (go_at_call 65; refine (within_any _ _ _ _).mono ?_; rintro e w' ⟨rfl, rfl⟩))
  refine (DryYears_any A c l p w h).mono ?_
  rintro e w2 ⟨A1, c1, rfl, ho, hb⟩
  obtain ⟨d, hd⟩ : ∃ d, d = dryY l p := ⟨_, rfl⟩
  rw [← hd] at ho E HD hdl ⊢
  have HO := Lib.hid ho.rd
  have HB := Lib.hid hb
  have hle := ho.le
  clear ho hb hd hB
  go_wp2_with fail
  go_loop [5, 6, 7, 22] (fun be n la i => ∃ (k : Nat) (best m last : Int), k ≤ d.length ∧ i = .int .i64 k ∧ be = .int .i64 best ∧ n = .int .i64 m ∧ la = .int .i64 last ∧ Hid (lonGo (d.drop k) best m last = lonGo d 0 0 (-2)) ∧ 0 ≤ best ∧ best ≤ k ∧ 0 ≤ m ∧ m ≤ k ∧ (-2) ≤ last ∧ last ≤ 60 ∧ last ≠ -1) (fun _ _ _ i => d.length - (intOf i).toNat)
  case atStart => exact ⟨0, 0, 0, -2, Nat.zero_le _, rfl, rfl, rfl, rfl, rfl, by omega, by omega, by omega, by omega, by omega, by omega, by omega⟩
  case round =>
    obtain ⟨k, best, m, last, hk, rfl, rfl, rfl, rfl, HR, b0, b1, m0, m1, l0, l1, l2⟩ := hrel
    by_cases hlt : k < d.length
    · obtain ⟨b, o, x, rfl, hbb, hx, hcell⟩ := HO.out.at_ hlt
      obtain ⟨j, rfl, hj⟩ := HD.out x (List.mem_of_getElem? hx)
      have hs := HR.out
      rw [drop_cons hx, lonGo_cons] at hs
      clear hx
      have hj' : (j : Int) ≤ 60 := by omega
      by_cases hn : (j : Int) = last + 1
      · rw [if_pos hn, hn] at hs
        have HS := Lib.hid hs; clear hs
        have q1 : ((j : Int) != last + 1) = false := by simp [hn]
        by_cases hb : best < m + 1
        · have hmx : max best (m + 1) = m + 1 := by omega
          rw [hmx] at HS
          go_wp2_with fail
          go_round
          case rel => exact ⟨k + 1, _, _, _, by omega, by go_num, rfl, rfl, rfl, HS.out, by omega, by omega, by omega, by omega, by omega, by omega, by omega⟩
          case measure => simp [intOf]; omega
        · have hmx : max best (m + 1) = best := by omega
          rw [hmx] at HS
          go_wp2_with fail
          go_round
          case rel => exact ⟨k + 1, _, _, _, by omega, by go_num, rfl, rfl, rfl, HS.out, by omega, by omega, by omega, by omega, by omega, by omega, by omega⟩
          case measure => simp [intOf]; omega
      · rw [if_neg hn] at hs
        have HS := Lib.hid hs; clear hs
        have q1 : ((j : Int) != last + 1) = true := by simpa using hn
        by_cases hb : best < 1
        · have hmx : max best 1 = 1 := by omega
          rw [hmx] at HS
          go_wp2_with fail
          go_round
          case rel => exact ⟨k + 1, _, _, _, by omega, by go_num, rfl, rfl, rfl, HS.out, by omega, by omega, by omega, by omega, by omega, by omega, by omega⟩
          case measure => simp [intOf]; omega
        · have hmx : max best 1 = best := by omega
          rw [hmx] at HS
          go_wp2_with fail
          go_round
          case rel => exact ⟨k + 1, _, _, _, by omega, by go_num, rfl, rfl, rfl, HS.out, by omega, by omega, by omega, by omega, by omega, by omega, by omega⟩
          case measure => simp [intOf]; omega
    · have hs := HR.out
      rw [drop_end hlt] at hs
      have HS : Hid (longY l p = best) := by show _ = _; rw [E.out, ← hs]; rfl
      clear hs
      go_wp2_with fail
      go_ret
      exact ⟨ret_int HS.out.symm, HB.out⟩
set_option maxHeartbeats 1600000 in
theorem LongestDroughtS_any (A : Option Addr) (c : Nat) (l : List Int) (p : Int) (w : World) (h : RdI w w.heap.size A c l) :
    Calls Try.prog 45 #[.slice A l.length c, .int .i64 p] w fun e w' => e = .returned (.int .i64 (longY l p)) ∧ Below w.heap.size w w' := by
  obtain ⟨hl, hm⟩ := h.le
  have hB := Below.refl w.heap.size w
  cases hy : yearsOk l
  · have E := Lib.hid (longY_no (p := p) (.inl hy))
    go_enter Try.func45, Try.ntmps45
    go_wp2_with (go_at_call 75; refine (YearsOkS_any A c l _ h).mono ?_; rintro e w' ⟨rfl, rfl⟩)
    go_ret
    exact ⟨ret_int E.out.symm, by repeat' (first | (with_reducible exact Below.refl _ _) | (with_reducible assumption) | (with_reducible refine Below.alloc ?_ ?_ _) | (with_reducible refine Below.setCell ?_ ?_ _) | (with_reducible refine Below.drew ?_) | (with_reducible refine below_drewN ?_ _) | (refine Below.trans ?_ (Below.mono (by with_reducible assumption) ?_)) | omega | (simp; done) | (simp; omega))⟩
  cases hp : inB p 0 100
  · have E := Lib.hid (longY_no (l := l) (.inr hp))
    go_enter Try.func45, Try.ntmps45
    go_wp2_with (first | (go_at_call 75; refine (YearsOkS_any A c l _ h).mono ?_; rintro e w' ⟨rfl, rfl⟩) | (go_at_call 77; refine (l01In_any _ _ _ _).mono ?_; rintro e w' ⟨rfl, rfl⟩))
    go_ret
    exact ⟨ret_int E.out.symm, by repeat' (first | (with_reducible exact Below.refl _ _) | (with_reducible assumption) | (with_reducible refine Below.alloc ?_ ?_ _) | (with_reducible refine Below.setCell ?_ ?_ _) | (with_reducible refine Below.drew ?_) | (with_reducible refine below_drewN ?_ _) | (refine Below.trans ?_ (Below.mono (by with_reducible assumption) ?_)) | omega | (simp; done) | (simp; omega))⟩
  have E := Lib.hid (longY_yes hy hp)
  have hyl := (yearsOk_iff hy).2
  have hdl := dryY_len l p
  have HD : Hid (∀ x ∈ dryY l p, ∃ j : Nat, x = (j : Int) ∧ j < l.length) := fun x hx => dryY_mem hx
  go_enter Try.func45, Try.ntmps45
  go_wp2_with (first | (go_at_call 75; refine (YearsOkS_any A c l _ h).mono ?_; rintro e w' ⟨rfl, rfl⟩) | (go_at_call 77; refine (l01In_any _ _ _ _).mono ?_; rintro e w' ⟨rfl, rfl⟩))
  refine (DryYearsS_any A c l p w h).mono ?_
  rintro e w2 ⟨A1, c1, rfl, ho, hb⟩
  obtain ⟨d, hd⟩ : ∃ d, d = dryY l p := ⟨_, rfl⟩
  rw [← hd] at ho E HD hdl ⊢
  have HO := Lib.hid ho.rd
  have HB := Lib.hid hb
  have hle := ho.le
  clear ho hb hd hB
  go_wp2_with fail
  go_loopw [5, 6, 8] (fun be n i wr => ∃ (k : Nat) (best m last : Int), k ≤ d.length ∧ i = .int .i64 k ∧ be = .int .i64 best ∧ n = .int .i64 m ∧ Hid (lonGo (d.drop k) best m last = lonGo d 0 0 (-2)) ∧ Hid (k = 0 ∧ last = -2 ∨ ∃ q, k = q + 1 ∧ d[q]? = some last) ∧ 0 ≤ best ∧ best ≤ k ∧ 0 ≤ m ∧ m ≤ k ∧ ∃ n, wr = w2.drewN n) (fun _ _ i _ => d.length - (intOf i).toNat)
  case atStart => exact ⟨0, 0, 0, -2, Nat.zero_le _, rfl, rfl, rfl, rfl, .inl ⟨rfl, rfl⟩, by omega, by omega, by omega, by omega, 0, rfl⟩
  case round =>
    obtain ⟨k, best, m, last, hk, rfl, rfl, rfl, HR, HL, b0, b1, m0, m1, nd, rfl⟩ := hrel
    by_cases hlt : k < d.length
    · obtain ⟨b, o, x, rfl, hbb, hx, hcell⟩ := HO.out.at_ hlt
      obtain ⟨j, rfl, hj⟩ := HD.out x (List.mem_of_getElem? hx)
      have hs := HR.out
      rw [drop_cons hx, lonGo_cons] at hs
      have HX := Lib.hid hx
      clear hx
      have hj' : (j : Int) ≤ 60 := by omega
      cases k with
      | zero =>
        obtain rfl : last = -2 := by
          rcases HL.out with ⟨_, h1⟩ | ⟨q, h1, _⟩
          · exact h1
          · omega
        have d0 : decide ((0 : Nat) < 0) = false := rfl
        rw [if_neg (by omega)] at hs
        have HS := Lib.hid hs; clear hs
        have HL1 : Hid ((0 + 1 = 0 ∧ (j : Int) = -2) ∨ ∃ q, 0 + 1 = q + 1 ∧ d[q]? = some (j : Int)) := .inr ⟨0, rfl, HX.out⟩
        have hmx : max best 1 = 1 := by omega
        have hb : best < 1 := by omega
        rw [hmx] at HS
        go_wp2_with fail
        go_quiet (fail)
        go_wp2_with fail
        go_roundw
        case rel => exact ⟨0 + 1, _, _, _, by omega, by go_num, rfl, rfl, HS.out, HL1.out, by omega, by omega, by omega, by omega, nd + nq, rfl⟩
        case measure => simp [intOf]; omega
      | succ q =>
        obtain ⟨q', hq', hlq⟩ : ∃ q', q + 1 = q' + 1 ∧ d[q']? = some last := by
          rcases HL.out with ⟨h1, _⟩ | h1
          · omega
          · exact h1
        obtain rfl : q = q' := by omega
        obtain ⟨i, rfl, hi⟩ := HD.out last (List.mem_of_getElem? hlq)
        obtain ⟨b', o', y, hA', hbb', hy', hcell'⟩ := HO.out.at_ (k := q) (by omega)
        obtain ⟨rfl, rfl⟩ : b = b' ∧ o = o' := by simpa using hA'
        rw [hlq] at hy'
        obtain rfl := Option.some.inj hy'
        have hi' : (i : Int) ≤ 60 := by omega
        have j2 : IntKind.i64.wrap (((q + 1 : Nat) : Int) - 1) = (q : Int) := by
          rw [IntWalk.i64_in _ (by omega)]; omega
        have j3 : (0 : Int) ≤ (q : Int) := by omega
        have j4 : (q : Int) < (d.length : Int) := by omega
        have j5 : decide ((0 : Int) < ((q + 1 : Nat) : Int)) = true := by first | (simp; done) | (simp; omega)
        have j6 : decide (0 < q + 1) = true := by simp
        have HL1 : Hid ((q + 1 + 1 = 0 ∧ (j : Int) = -2) ∨ ∃ q', q + 1 + 1 = q' + 1 ∧ d[q']? = some (j : Int)) := .inr ⟨q + 1, rfl, HX.out⟩
        clear hlq hy' hA'
        by_cases hn : (j : Int) = (i : Int) + 1
        · rw [if_pos hn] at hs
          have HS := Lib.hid hs; clear hs
          have q1 : ((j : Int) == (i : Int) + 1) = true := by simp [hn]
          have q2 : decide ((j : Int) = (i : Int) + 1) = true := by simp [hn]
          by_cases hb : best < m + 1
          · have hmx : max best (m + 1) = m + 1 := by omega
            rw [hmx] at HS
            go_wp2_with fail
            go_quiet (fail)
            go_wp2_with fail
            go_roundw
            case rel => exact ⟨q + 1 + 1, _, _, _, by omega, by go_num, rfl, rfl, HS.out, HL1.out, by omega, by omega, by omega, by omega, nd + nq, rfl⟩
            case measure => simp [intOf]; omega
          · have hmx : max best (m + 1) = best := by omega
            rw [hmx] at HS
            go_wp2_with fail
            go_quiet (fail)
            go_wp2_with fail
            go_roundw
            case rel => exact ⟨q + 1 + 1, _, _, _, by omega, by go_num, rfl, rfl, HS.out, HL1.out, by omega, by omega, by omega, by omega, nd + nq, rfl⟩
            case measure => simp [intOf]; omega
        · rw [if_neg hn] at hs
          have HS := Lib.hid hs; clear hs
          have q1 : ((j : Int) == (i : Int) + 1) = false := by simpa using hn
          have q2 : decide ((j : Int) = (i : Int) + 1) = false := by simpa using hn
          by_cases hb : best < 1
          · have hmx : max best 1 = 1 := by omega
            rw [hmx] at HS
            go_wp2_with fail
            go_quiet (fail)
            go_wp2_with fail
            go_roundw
            case rel => exact ⟨q + 1 + 1, _, _, _, by omega, by go_num, rfl, rfl, HS.out, HL1.out, by omega, by omega, by omega, by omega, nd + nq, rfl⟩
            case measure => simp [intOf]; omega
          · have hmx : max best 1 = best := by omega
            rw [hmx] at HS
            go_wp2_with fail
            go_quiet (fail)
            go_wp2_with fail
            go_roundw
            case rel => exact ⟨q + 1 + 1, _, _, _, by omega, by go_num, rfl, rfl, HS.out, HL1.out, by omega, by omega, by omega, by omega, nd + nq, rfl⟩
            case measure => simp [intOf]; omega
    · have hs := HR.out
      rw [drop_end hlt] at hs
      have HS : Hid (longY l p = best) := by show _ = _; rw [E.out, ← hs]; rfl
      clear hs
      go_wp2_with fail
      go_ret
      exact ⟨ret_int HS.out.symm, below_drewN HB.out _⟩
end Go.Proofs.Ytnedbdpcimhfgaa
