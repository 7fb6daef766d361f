/- Fractions: the greatest common divisor, FractionOk, sums. -/
import Derived.Test.YtnedbdpcimhfgaaDoorNew
import Derived.Test.YtnedbdpcimhfgaaDoorQueue
import Derived.RegionTactic
import Derived.Deep.RegionHeld3
namespace Go.Proofs.YtnedbdpcimhfgaaDoor
open Go.RowKit
set_option maxHeartbeats 400000 in
theorem commonDivisor_any (a b : Nat) (w : World) (ha : a ≤ 1000000000000) (hb : b ≤ 1000000000000) :
    Calls Tryd.prog 31 #[.int .i64 a, .int .i64 b] w fun e w' => e = .returned (.int .i64 (Nat.gcd a b : Nat)) ∧ ∃ n, w' = w.drewN n := by
  go_enter Tryd.func31, Tryd.ntmps31
  go_wp2
  go_loopw [0, 1] (fun s t wr => ∃ x y : Nat, s = .int .i64 x ∧ t = .int .i64 y ∧ Hid (Nat.gcd x y = Nat.gcd a b) ∧ x ≤ 1000000000000 ∧ y ≤ 1000000000000 ∧ ∃ n, wr = w.drewN n) (fun _ t _ => (intOf t).toNat)
  case atStart => exact ⟨a, b, rfl, rfl, Lib.hid rfl, ha, hb, 0, rfl⟩
  case round =>
    obtain ⟨x, y, rfl, rfl, HG, hx, hy, n, rfl⟩ := hrel
    by_cases h0 : y = 0
    · subst h0
      go_wp2
      go_ret
      have e1 := HG.out
      rw [Nat.gcd_zero_right] at e1
      exact ⟨ret_int (by rw [e1]), n, rfl⟩
    · have hp : (1 : Int) ≤ (y : Int) := by omega
      have hne : ((y : Int) != 0) = true := by simp; omega
      have hne2 : ((y : Int) == 0) = false := by simp; omega
      have hq : ¬ (y : Int) = 0 := by omega
      have hlt : x % y < y := Nat.mod_lt _ (by omega)
      go_wp2
      go_quiet (fail)
      go_wp2
      go_roundw
      case rel => exact ⟨y, x % y, rfl, by simp [Int.ofNat_tmod], Lib.hid (by rw [← HG.out, Nat.gcd_comm x y, Nat.gcd_rec y x, Nat.gcd_comm]), by omega, by omega, n + nq, World.drewN_drewN _ _ _⟩
      case measure => simp [intOf]; omega
set_option maxHeartbeats 400000 in
theorem l11Gcd_any (a b : Nat) (w : World) (ha : a ≤ 1000000000000) (hb : b ≤ 1000000000000) :
    Calls Tryd.prog 29 #[.int .i64 a, .int .i64 b] w fun e w' => e = .returned (.int .i64 (Nat.gcd a b : Nat)) ∧ ∃ n, w' = w.drewN n := by
  go_enter Tryd.func29, Tryd.ntmps29
  go_wp2
  go_loopw [0, 1] (fun s t wr => ∃ x y : Nat, s = .int .i64 x ∧ t = .int .i64 y ∧ Hid (Nat.gcd x y = Nat.gcd a b) ∧ x ≤ 1000000000000 ∧ y ≤ 1000000000000 ∧ ∃ n, wr = w.drewN n) (fun _ t _ => (intOf t).toNat)
  case atStart => exact ⟨a, b, rfl, rfl, Lib.hid rfl, ha, hb, 0, rfl⟩
  case round =>
    obtain ⟨x, y, rfl, rfl, HG, hx, hy, n, rfl⟩ := hrel
    by_cases h0 : y = 0
    · subst h0
      go_wp2
      go_ret
      have e1 := HG.out
      rw [Nat.gcd_zero_right] at e1
      exact ⟨ret_int (by rw [e1]), n, rfl⟩
    · have hp : (1 : Int) ≤ (y : Int) := by omega
      have hne : ((y : Int) != 0) = true := by simp; omega
      have hne2 : ((y : Int) == 0) = false := by simp; omega
      have hq : ¬ (y : Int) = 0 := by omega
      have hlt : x % y < y := Nat.mod_lt _ (by omega)
      go_wp2
      go_quiet (fail)
      go_wp2
      go_roundw
      case rel => exact ⟨y, x % y, rfl, by simp [Int.ofNat_tmod], Lib.hid (by rw [← HG.out, Nat.gcd_comm x y, Nat.gcd_rec y x, Nat.gcd_comm]), by omega, by omega, n + nq, World.drewN_drewN _ _ _⟩
      case measure => simp [intOf]; omega
def fracOk (t b : Int) : Bool := inB b 1 10000 && inB t 0 10000 && ((Nat.gcd t.toNat b.toNat : Int) == 1)
set_option maxHeartbeats 800000 in
theorem FractionOk_any (t b : Int) (w : World) :
    Calls Tryd.prog 23 #[.agg #[.int .i64 t, .int .i64 b]] w fun e w' => e = .returned (.bool (fracOk t b)) ∧ Below w.heap.size w w' := by
  cases h1 : inB b 1 10000
  · have E1 : Hid (fracOk t b = false) := by unfold fracOk; rw [h1]; rfl
    go_enter Tryd.func23, Tryd.ntmps23
    go_wp2_with (go_at_call 22; refine (within_any _ _ _ _).mono ?_; rintro e w' ⟨rfl, rfl⟩)
    go_ret
    exact ⟨ret_bool E1.out.symm, by repeat' (first | (with_reducible exact Below.refl _ _) | (with_reducible assumption) | (with_reducible refine Below.alloc ?_ ?_ _) | (with_reducible refine Below.setCell ?_ ?_ _) | (with_reducible refine Below.drew ?_) | (with_reducible refine below_drewN ?_ _) | (refine Below.trans ?_ (Below.mono (by with_reducible assumption) ?_)) | omega | (simp; done) | (simp; omega))⟩
  cases h2 : inB t 0 10000
  · have E1 : Hid (fracOk t b = false) := by unfold fracOk; rw [h1, h2]; rfl
    go_enter Tryd.func23, Tryd.ntmps23
    go_wp2_with (go_at_call 22; refine (within_any _ _ _ _).mono ?_; rintro e w' ⟨rfl, rfl⟩)
    go_ret
    exact ⟨ret_bool E1.out.symm, by repeat' (first | (with_reducible exact Below.refl _ _) | (with_reducible assumption) | (with_reducible refine Below.alloc ?_ ?_ _) | (with_reducible refine Below.setCell ?_ ?_ _) | (with_reducible refine Below.drew ?_) | (with_reducible refine below_drewN ?_ _) | (refine Below.trans ?_ (Below.mono (by with_reducible assumption) ?_)) | omega | (simp; done) | (simp; omega))⟩
  have r1 := inB_iff.1 h1
  have r2 := inB_iff.1 h2
  obtain ⟨tn, rfl⟩ := Int.eq_ofNat_of_zero_le (show 0 ≤ t by omega)
  obtain ⟨bn, rfl⟩ := Int.eq_ofNat_of_zero_le (show 0 ≤ b by omega)
  obtain ⟨g, hg⟩ : ∃ g, g = Nat.gcd tn bn := ⟨_, rfl⟩
  have E1 : Hid (fracOk tn bn = ((g : Int) == 1)) := by unfold fracOk; rw [h1, h2, hg]; rfl
  have HC : Hid (∀ W, Calls Tryd.prog 31 #[.int .i64 tn, .int .i64 bn] W fun e w' => e = .returned (.int .i64 g) ∧ ∃ n, w' = W.drewN n) := fun W => by rw [hg]; exact commonDivisor_any tn bn W (by omega) (by omega)
  clear hg r1 r2
  go_enter Tryd.func23, Tryd.ntmps23
  go_wp2_with (first | (go_at_call 22; refine (within_any _ _ _ _).mono ?_; rintro e w' ⟨rfl, rfl⟩) | (go_at_call 31; refine (HC.out _).mono ?_; rintro e w' ⟨rfl, nd, rfl⟩))
  go_ret
  exact ⟨ret_bool E1.out.symm, by repeat' (first | (with_reducible exact Below.refl _ _) | (with_reducible assumption) | (with_reducible refine Below.alloc ?_ ?_ _) | (with_reducible refine Below.setCell ?_ ?_ _) | (with_reducible refine Below.drew ?_) | (with_reducible refine below_drewN ?_ _) | (refine Below.trans ?_ (Below.mono (by with_reducible assumption) ?_)) | omega | (simp; done) | (simp; omega))⟩
set_option maxHeartbeats 800000 in
theorem FractionOkS_any (t b : Int) (w : World) :
    Calls Tryd.prog 18 #[.agg #[.int .i64 t, .int .i64 b]] w fun e w' => e = .returned (.bool (fracOk t b)) ∧ Below w.heap.size w w' := by
  cases h1 : inB b 1 10000
  · have E1 : Hid (fracOk t b = false) := by unfold fracOk; rw [h1]; rfl
    go_enter Tryd.func18, Tryd.ntmps18
    go_wp2_with (go_at_call 17; refine (l01In_any _ _ _ _).mono ?_; rintro e w' ⟨rfl, rfl⟩)
    go_ret
    exact ⟨ret_bool E1.out.symm, by repeat' (first | (with_reducible exact Below.refl _ _) | (with_reducible assumption) | (with_reducible refine Below.alloc ?_ ?_ _) | (with_reducible refine Below.setCell ?_ ?_ _) | (with_reducible refine Below.drew ?_) | (with_reducible refine below_drewN ?_ _) | (refine Below.trans ?_ (Below.mono (by with_reducible assumption) ?_)) | omega | (simp; done) | (simp; omega))⟩
  cases h2 : inB t 0 10000
  · have E1 : Hid (fracOk t b = false) := by unfold fracOk; rw [h1, h2]; rfl
    go_enter Tryd.func18, Tryd.ntmps18
    go_wp2_with (go_at_call 17; refine (l01In_any _ _ _ _).mono ?_; rintro e w' ⟨rfl, rfl⟩)
    go_ret
    exact ⟨ret_bool E1.out.symm, by repeat' (first | (with_reducible exact Below.refl _ _) | (with_reducible assumption) | (with_reducible refine Below.alloc ?_ ?_ _) | (with_reducible refine Below.setCell ?_ ?_ _) | (with_reducible refine Below.drew ?_) | (with_reducible refine below_drewN ?_ _) | (refine Below.trans ?_ (Below.mono (by with_reducible assumption) ?_)) | omega | (simp; done) | (simp; omega))⟩
  have r1 := inB_iff.1 h1
  have r2 := inB_iff.1 h2
  obtain ⟨tn, rfl⟩ := Int.eq_ofNat_of_zero_le (show 0 ≤ t by omega)
  obtain ⟨bn, rfl⟩ := Int.eq_ofNat_of_zero_le (show 0 ≤ b by omega)
  obtain ⟨g, hg⟩ : ∃ g, g = Nat.gcd tn bn := ⟨_, rfl⟩
  have E1 : Hid (fracOk tn bn = ((g : Int) == 1)) := by unfold fracOk; rw [h1, h2, hg]; rfl
  have HC : Hid (∀ W, Calls Tryd.prog 29 #[.int .i64 tn, .int .i64 bn] W fun e w' => e = .returned (.int .i64 g) ∧ ∃ n, w' = W.drewN n) := fun W => by rw [hg]; exact l11Gcd_any tn bn W (by omega) (by omega)
  clear hg r1 r2
  go_enter Tryd.func18, Tryd.ntmps18
  go_wp2_with (first | (go_at_call 17; refine (l01In_any _ _ _ _).mono ?_; rintro e w' ⟨rfl, rfl⟩) | (go_at_call 29; refine (HC.out _).mono ?_; rintro e w' ⟨rfl, nd, rfl⟩))
  go_ret
  exact ⟨ret_bool E1.out.symm, by repeat' (first | (with_reducible exact Below.refl _ _) | (with_reducible assumption) | (with_reducible refine Below.alloc ?_ ?_ _) | (with_reducible refine Below.setCell ?_ ?_ _) | (with_reducible refine Below.drew ?_) | (with_reducible refine below_drewN ?_ _) | (refine Below.trans ?_ (Below.mono (by with_reducible assumption) ?_)) | omega | (simp; done) | (simp; omega))⟩
theorem div_in (t g : Nat) (h : t ≤ 1000000000000) : -9223372036854775808 ≤ (t : Int) / (g : Int) ∧ (t : Int) / (g : Int) ≤ 9223372036854775807 := by
  have h1 : ((t / g : Nat) : Int) = (t : Int) / (g : Int) := Int.natCast_ediv t g
  have h2 : t / g ≤ t := Nat.div_le_self _ _
  have h3 : (0 : Int) ≤ (t : Int) / (g : Int) := Int.ediv_nonneg (by omega) (by omega)
  have h4 : (t : Int) / (g : Int) ≤ (t : Int) := by rw [← h1]; exact Int.ofNat_le.2 h2
  exact ⟨by omega, by omega⟩
/-- top, bottom, ok -/
def redF (t b : Nat) : Int × Int × Bool :=
  if fracOk ((t / Nat.gcd t b : Nat) : Int) ((b / Nat.gcd t b : Nat) : Int) then (((t / Nat.gcd t b : Nat) : Int), ((b / Nat.gcd t b : Nat) : Int), true) else (0, 0, false)
def frRet (r : Int × Int × Bool) : Ending := .returned (.tuple #[.agg #[.int .i64 r.1, .int .i64 r.2.1], .bool r.2.2])
def addF (a b c d : Int) : Int × Int × Bool := if fracOk a b && fracOk c d then redF (a * d + c * b).toNat (b * d).toNat else (0, 0, false)
theorem fracOk_iff {t b : Int} (h : fracOk t b = true) : 0 ≤ t ∧ t ≤ 10000 ∧ 1 ≤ b ∧ b ≤ 10000 := by
  unfold fracOk at h
  simp only [Bool.and_eq_true] at h
  have h1 := inB_iff.1 h.1.1
  have h2 := inB_iff.1 h.1.2
  omega
theorem mul_in {a b : Int} (h0 : 0 ≤ a) (h1 : a ≤ 10000) (h2 : 0 ≤ b) (h3 : b ≤ 10000) : 0 ≤ a * b ∧ a * b ≤ 100000000 :=
  ⟨Int.mul_nonneg h0 h2, by have := Int.mul_le_mul h1 h3 h2 (by omega : (0 : Int) ≤ 10000); omega⟩
def makeF (t b : Int) : Int × Int × Bool := if inB t 0 100000000 && inB b 1 100000000 then redF t.toNat b.toNat else (0, 0, false)
theorem makeF_nat {x y : Nat} (hg : Nat.gcd x y = 1) (hy1 : 1 ≤ y) (hy : y ≤ 100000000) : makeF x y = redF x y := by
  unfold makeF
  by_cases hx : x ≤ 100000000
  · rw [inB_iff.2 ⟨by omega, by omega⟩, inB_iff.2 ⟨by omega, by omega⟩]; rfl
  · have h1 : inB (x : Int) 0 100000000 = false := inB_no.2 (by omega)
    have h2 : inB (x : Int) 0 10000 = false := inB_no.2 (by omega)
    have h3 : fracOk (x : Int) (y : Int) = false := by unfold fracOk; rw [h2]; simp
    unfold redF
    rw [h1, hg, Nat.div_one, Nat.div_one, h3]; rfl
theorem redF_red {t b g : Nat} (hb : 1 ≤ b) (hg : g = Nat.gcd t b) : redF (t / g) (b / g) = redF t b := by
  subst hg
  unfold redF
  rw [Nat.gcd_div_gcd_div_gcd_of_pos_right (by omega), Nat.div_one, Nat.div_one]
end Go.Proofs.YtnedbdpcimhfgaaDoor
