/- Texts of the proof, joined: Frac. -/
import Derived.Test.YtpmmjhpmheooeaaGreatDoorQ1
import Derived.RegionTactic
import Derived.Deep.RegionHeld3
namespace Go.Proofs.YtpmmjhpmheooeaaGreatDoor
set_option linter.unusedSimpArgs false
set_option linter.unusedVariables false
section
open Go.RowKit
set_option maxHeartbeats 400000 in
theorem commonDivisor_any (a b : Nat) (w : World) (ha : a ≤ 1000000000000) (hb : b ≤ 1000000000000) :
  Calls Tryz.prog 125 #[.int .i64 a, .int .i64 b] w fun e w' => e = .returned (.int .i64 (Nat.gcd a b : Nat)) ∧ ∃ n, w' = w.drewN n := by
 go_enter Tryz.func125, Tryz.ntmps125
 go_wp2
 go_loopw [0, 1] (fun s t wr => ∃ x y : Nat, s = .int .i64 x ∧ t = .int .i64 y ∧ Hid (Nat.gcd x y = Nat.gcd a b) ∧ x ≤ 1000000000000 ∧ y ≤ 1000000000000 ∧ ∃ n, wr = w.drewN n) (fun _ t _ => (intOf t).toNat)
 case atStart => exact ⟨a, b, rfl, rfl, Lib.hid rfl, ha, hb, 0, rfl⟩
 case round =>
  obtain ⟨x, y, rfl, rfl, HG, hx, hy, n, rfl⟩ := hrel
  by_cases h0 : y = 0
  ·subst h0
   go_wp2
   go_ret
   have e1 := HG.out
   rw [Nat.gcd_zero_right] at e1
   exact ⟨ret_int (by rw [e1]), n, rfl⟩
  ·have hp : (1 : Int) ≤ (y : Int) := by omega
   have hne : ((y : Int) != 0) = true := by simp; omega
   have hne2 : ((y : Int) == 0) = false := by simp; omega
   have hq : ¬ (y : Int) = 0 := by omega
   have hlt : x % y < y := Nat.mod_lt _ (by omega)
   go_wp2
   go_quiet (fail)
   go_wp2
   go_roundw
   case rel => exact ⟨y, x % y, rfl, by simp [Int.ofNat_tmod], Lib.hid (by rw [← HG.out, Nat.gcd_comm x y, Nat.gcd_rec y x, Nat.gcd_comm]), by omega, by omega, n + nq, World.drewN_drewN _ _ _⟩
   case measure => simp [intOf]; omega
set_option maxHeartbeats 400000 in
theorem l11Gcd_any (a b : Nat) (w : World) (ha : a ≤ 1000000000000) (hb : b ≤ 1000000000000) :
  Calls Tryz.prog 143 #[.int .i64 a, .int .i64 b] w fun e w' => e = .returned (.int .i64 (Nat.gcd a b : Nat)) ∧ ∃ n, w' = w.drewN n := by
 go_enter Tryz.func143, Tryz.ntmps143
 go_wp2
 go_loopw [0, 1] (fun s t wr => ∃ x y : Nat, s = .int .i64 x ∧ t = .int .i64 y ∧ Hid (Nat.gcd x y = Nat.gcd a b) ∧ x ≤ 1000000000000 ∧ y ≤ 1000000000000 ∧ ∃ n, wr = w.drewN n) (fun _ t _ => (intOf t).toNat)
 case atStart => exact ⟨a, b, rfl, rfl, Lib.hid rfl, ha, hb, 0, rfl⟩
 case round =>
  obtain ⟨x, y, rfl, rfl, HG, hx, hy, n, rfl⟩ := hrel
  by_cases h0 : y = 0
  ·subst h0
   go_wp2
   go_ret
   have e1 := HG.out
   rw [Nat.gcd_zero_right] at e1
   exact ⟨ret_int (by rw [e1]), n, rfl⟩
  ·have hp : (1 : Int) ≤ (y : Int) := by omega
   have hne : ((y : Int) != 0) = true := by simp; omega
   have hne2 : ((y : Int) == 0) = false := by simp; omega
   have hq : ¬ (y : Int) = 0 := by omega
   have hlt : x % y < y := Nat.mod_lt _ (by omega)
   go_wp2
   go_quiet (fail)
   go_wp2
   go_roundw
   case rel => exact ⟨y, x % y, rfl, by simp [Int.ofNat_tmod], Lib.hid (by rw [← HG.out, Nat.gcd_comm x y, Nat.gcd_rec y x, Nat.gcd_comm]), by omega, by omega, n + nq, World.drewN_drewN _ _ _⟩
   case measure => simp [intOf]; omega
def fracOk (t b : Int) : Bool := inB b 1 10000 && inB t 0 10000 && ((Nat.gcd t.toNat b.toNat : Int) == 1)
set_option maxHeartbeats 800000 in
theorem FractionOk_any (t b : Int) (w : World) :
  Calls Tryz.prog 99 #[.agg #[.int .i64 t, .int .i64 b]] w fun e w' => e = .returned (.bool (fracOk t b)) ∧ Below w.heap.size w w' := by
 cases h1 : inB b 1 10000
 ·have E1 : Hid (fracOk t b = false) := by unfold fracOk; rw [h1]; rfl
  go_enter Tryz.func99, Tryz.ntmps99
  go_wp2_with (go_at_call 97; refine (within_any _ _ _ _).mono ?_; rintro e w' ⟨rfl, rfl⟩)
  go_ret
  exact ⟨ret_bool E1.out.symm, by exact tacT⟩
 cases h2 : inB t 0 10000
 ·have E1 : Hid (fracOk t b = false) := by unfold fracOk; rw [h1, h2]; rfl
  go_enter Tryz.func99, Tryz.ntmps99
  go_wp2_with (go_at_call 97; refine (within_any _ _ _ _).mono ?_; rintro e w' ⟨rfl, rfl⟩)
  go_ret
  exact ⟨ret_bool E1.out.symm, by exact tacT⟩
 have r1 := inB_iff.1 h1
 have r2 := inB_iff.1 h2
 obtain ⟨tn, rfl⟩ := Int.eq_ofNat_of_zero_le (show 0 ≤ t by omega)
 obtain ⟨bn, rfl⟩ := Int.eq_ofNat_of_zero_le (show 0 ≤ b by omega)
 obtain ⟨g, hg⟩ : ∃ g, g = Nat.gcd tn bn := ⟨_, rfl⟩
 have E1 : Hid (fracOk tn bn = ((g : Int) == 1)) := by unfold fracOk; rw [h1, h2, hg]; rfl
 have HC : Hid (∀ W, Calls Tryz.prog 125 #[.int .i64 tn, .int .i64 bn] W fun e w' => e = .returned (.int .i64 g) ∧ ∃ n, w' = W.drewN n) := fun W => by rw [hg]; exact commonDivisor_any tn bn W (by omega) (by omega)
 clear hg r1 r2
 go_enter Tryz.func99, Tryz.ntmps99
 go_wp2_with (first | (go_at_call 97; refine (within_any _ _ _ _).mono ?_; rintro e w' ⟨rfl, rfl⟩) | (go_at_call 125; refine (HC.out _).mono ?_; rintro e w' ⟨rfl, nd, rfl⟩))
 go_ret
 exact ⟨ret_bool E1.out.symm, by exact tacT⟩
set_option maxHeartbeats 800000 in
theorem FractionOkS_any (t b : Int) (w : World) :
  Calls Tryz.prog 113 #[.agg #[.int .i64 t, .int .i64 b]] w fun e w' => e = .returned (.bool (fracOk t b)) ∧ Below w.heap.size w w' := by
 cases h1 : inB b 1 10000
 ·have E1 : Hid (fracOk t b = false) := by unfold fracOk; rw [h1]; rfl
  go_enter Tryz.func113, Tryz.ntmps113
  go_wp2_with (go_at_call 43; refine (l01In_any _ _ _ _).mono ?_; rintro e w' ⟨rfl, rfl⟩)
  go_ret
  exact ⟨ret_bool E1.out.symm, by exact tacT⟩
 cases h2 : inB t 0 10000
 ·have E1 : Hid (fracOk t b = false) := by unfold fracOk; rw [h1, h2]; rfl
  go_enter Tryz.func113, Tryz.ntmps113
  go_wp2_with (go_at_call 43; refine (l01In_any _ _ _ _).mono ?_; rintro e w' ⟨rfl, rfl⟩)
  go_ret
  exact ⟨ret_bool E1.out.symm, by exact tacT⟩
 have r1 := inB_iff.1 h1
 have r2 := inB_iff.1 h2
 obtain ⟨tn, rfl⟩ := Int.eq_ofNat_of_zero_le (show 0 ≤ t by omega)
 obtain ⟨bn, rfl⟩ := Int.eq_ofNat_of_zero_le (show 0 ≤ b by omega)
 obtain ⟨g, hg⟩ : ∃ g, g = Nat.gcd tn bn := ⟨_, rfl⟩
 have E1 : Hid (fracOk tn bn = ((g : Int) == 1)) := by unfold fracOk; rw [h1, h2, hg]; rfl
 have HC : Hid (∀ W, Calls Tryz.prog 143 #[.int .i64 tn, .int .i64 bn] W fun e w' => e = .returned (.int .i64 g) ∧ ∃ n, w' = W.drewN n) := fun W => by rw [hg]; exact l11Gcd_any tn bn W (by omega) (by omega)
 clear hg r1 r2
 go_enter Tryz.func113, Tryz.ntmps113
 go_wp2_with (first | (go_at_call 43; refine (l01In_any _ _ _ _).mono ?_; rintro e w' ⟨rfl, rfl⟩) | (go_at_call 143; refine (HC.out _).mono ?_; rintro e w' ⟨rfl, nd, rfl⟩))
 go_ret
 exact ⟨ret_bool E1.out.symm, by exact tacT⟩
theorem div_in (t g : Nat) (h : t ≤ 1000000000000) : -9223372036854775808 ≤ (t : Int) / (g : Int) ∧ (t : Int) / (g : Int) ≤ 9223372036854775807 := by
 have h1 : ((t / g : Nat) : Int) = (t : Int) / (g : Int) := Int.natCast_ediv t g
 have h2 : t / g ≤ t := Nat.div_le_self _ _
 have h3 : (0 : Int) ≤ (t : Int) / (g : Int) := Int.ediv_nonneg (by omega) (by omega)
 have h4 : (t : Int) / (g : Int) ≤ (t : Int) := by rw [← h1]; exact Int.ofNat_le.2 h2
 exact ⟨by omega, by omega⟩
/-- top, bottom, ok -/
def redF (t b : Nat) : Int × Int × Bool :=
 if fracOk ((t / Nat.gcd t b : Nat) : Int) ((b / Nat.gcd t b : Nat) : Int) then (((t / Nat.gcd t b : Nat) : Int), ((b / Nat.gcd t b : Nat) : Int), true) else (0, 0, false)
def frRet (r : Int × Int × Bool) : Ending := .returned (.tuple #[.agg #[.int .i64 r.1, .int .i64 r.2.1], .bool r.2.2])
set_option maxHeartbeats 800000 in
theorem reduced_any (t b : Nat) (w : World) (ht : t ≤ 1000000000000) (hb1 : 1 ≤ b) (hb2 : b ≤ 1000000000000) :
  Calls Tryz.prog 151 #[.int .i64 t, .int .i64 b] w fun e w' => e = frRet (redF t b) ∧ Below w.heap.size w w' := by
 obtain ⟨g, hg⟩ : ∃ g, g = Nat.gcd t b := ⟨_, rfl⟩
 have hg1 : 1 ≤ g := by rw [hg]; exact Nat.gcd_pos_of_pos_right _ (by omega)
 have hg2 : g ≤ 1000000000000 := by rw [hg]; have := Nat.gcd_le_right t (show 0 < b by omega); omega
 have HC : Hid (∀ W, Calls Tryz.prog 125 #[.int .i64 t, .int .i64 b] W fun e w' => e = .returned (.int .i64 g) ∧ ∃ n, w' = W.drewN n) := fun W => by rw [hg]; exact commonDivisor_any t b W (by omega) (by omega)
 cases hf : fracOk ((t / g : Nat) : Int) ((b / g : Nat) : Int)
 ·have E1 : redF t b = (0, 0, false) := by unfold redF; rw [← hg, hf]; rfl
  have HE := Lib.hid E1
  have HK : Hid (∀ W, Calls Tryz.prog 99 #[.agg #[.int .i64 ((t : Int) / (g : Int)), .int .i64 ((b : Int) / (g : Int))]] W fun e w' => e = .returned (.bool false) ∧ Below W.heap.size W w') := fun W => by rw [← hf]; exact FractionOk_any _ _ W
  clear E1 hg hf
  have q0 : ¬ (g : Int) = 0 := by omega
  have q1 : (1 : Int) ≤ (g : Int) := by omega
  have q2 : ((g : Int) == 0) = false := by simp; omega
  have ew1 : wrap64 ((t : Int) / (g : Int)) = (t : Int) / (g : Int) := IntWalk.wrap64_in _ (div_in t g ht)
  have ew2 : wrap64 ((b : Int) / (g : Int)) = (b : Int) / (g : Int) := IntWalk.wrap64_in _ (div_in b g hb2)
  go_enter Tryz.func151, Tryz.ntmps151
  go_wp2_with (go_at_call 125; refine (HC.out _).mono ?_; rintro e w' ⟨rfl, nd, rfl⟩)
  go_region
  try simp only [ew1, ew2]
  go_wp2_with fail
  refine name_world ?_
  intro W hW
  have hB : Below w.heap.size w W := by rw [hW]; exact tacT
  have hk0 : Blk W w.heap.size 67 #[.int .i64 0, .int .i64 0] := by rw [hW]; exact blkT
  have hk1 : Blk W (w.heap.size + 1) 67 #[.int .i64 ((t : Int) / (g : Int)), .int .i64 ((b : Int) / (g : Int))] := by rw [hW]; exact blkT
  clear hW
  refine (HK.out _).mono ?_
  rintro e w1 ⟨rfl, hb1⟩
  have hB1 := hB.trans (hb1.mono hB.size)
  have k0 := (hk0.below hb1 hk0.lt).cells
  have f0 := (hk0.below hb1 hk0.lt).frozens
  have k1 := (hk1.below hb1 hk1.lt).cells
  clear hk0 hk1 hB hb1
  go_wp2_with fail
  refine bodyPost_ret (v := .tuple #[.agg #[.int .i64 0, .int .i64 0], .bool false]) ?_ rfl ?_
  ·simp [results, Tryz.results151, go_sem, k0, k1]
  ·exact ⟨by rw [HE.out]; rfl, by exact tacT⟩
 ·have E1 : redF t b = (((t / g : Nat) : Int), ((b / g : Nat) : Int), true) := by unfold redF; rw [← hg, hf]; rfl
  have HE := Lib.hid E1
  have HK : Hid (∀ W, Calls Tryz.prog 99 #[.agg #[.int .i64 ((t : Int) / (g : Int)), .int .i64 ((b : Int) / (g : Int))]] W fun e w' => e = .returned (.bool true) ∧ Below W.heap.size W w') := fun W => by rw [← hf]; exact FractionOk_any _ _ W
  clear E1 hg hf
  have q0 : ¬ (g : Int) = 0 := by omega
  have q1 : (1 : Int) ≤ (g : Int) := by omega
  have q2 : ((g : Int) == 0) = false := by simp; omega
  have ew1 : wrap64 ((t : Int) / (g : Int)) = (t : Int) / (g : Int) := IntWalk.wrap64_in _ (div_in t g ht)
  have ew2 : wrap64 ((b : Int) / (g : Int)) = (b : Int) / (g : Int) := IntWalk.wrap64_in _ (div_in b g hb2)
  go_enter Tryz.func151, Tryz.ntmps151
  go_wp2_with (go_at_call 125; refine (HC.out _).mono ?_; rintro e w' ⟨rfl, nd, rfl⟩)
  go_region
  try simp only [ew1, ew2]
  go_wp2_with fail
  refine name_world ?_
  intro W hW
  have hB : Below w.heap.size w W := by rw [hW]; exact tacT
  have hk0 : Blk W w.heap.size 67 #[.int .i64 0, .int .i64 0] := by rw [hW]; exact blkT
  have hk1 : Blk W (w.heap.size + 1) 67 #[.int .i64 ((t : Int) / (g : Int)), .int .i64 ((b : Int) / (g : Int))] := by rw [hW]; exact blkT
  clear hW
  refine (HK.out _).mono ?_
  rintro e w1 ⟨rfl, hb1⟩
  have hB1 := hB.trans (hb1.mono hB.size)
  have k0 := (hk0.below hb1 hk0.lt).cells
  have f0 := (hk0.below hb1 hk0.lt).frozens
  have k1 := (hk1.below hb1 hk1.lt).cells
  clear hk0 hk1 hB hb1
  go_wp2_with fail
  refine bodyPost_ret (v := .tuple #[.agg #[.int .i64 ((t : Int) / (g : Int)), .int .i64 ((b : Int) / (g : Int))], .bool true]) ?_ rfl ?_
  ·simp [results, Tryz.results151, go_sem, k0, k1]
  ·exact ⟨by rw [HE.out]; rfl, by exact tacT⟩
theorem reduced_i (t b : Int) (w : World) (h0 : 0 ≤ t) (ht : t ≤ 1000000000000) (hb1 : 1 ≤ b) (hb2 : b ≤ 1000000000000) :
  Calls Tryz.prog 151 #[.int .i64 t, .int .i64 b] w fun e w' => e = frRet (redF t.toNat b.toNat) ∧ Below w.heap.size w w' := by
 obtain ⟨tn, rfl⟩ := Int.eq_ofNat_of_zero_le h0
 obtain ⟨bn, rfl⟩ := Int.eq_ofNat_of_zero_le (show 0 ≤ b by omega)
 exact reduced_any tn bn w (by omega) (by omega) (by omega)
def addF (a b c d : Int) : Int × Int × Bool := if fracOk a b && fracOk c d then redF (a * d + c * b).toNat (b * d).toNat else (0, 0, false)
theorem fracOk_iff {t b : Int} (h : fracOk t b = true) : 0 ≤ t ∧ t ≤ 10000 ∧ 1 ≤ b ∧ b ≤ 10000 := by
 unfold fracOk at h
 simp only [Bool.and_eq_true] at h
 have h1 := inB_iff.1 h.1.1
 have h2 := inB_iff.1 h.1.2
 omega
theorem mul_in {a b : Int} (h0 : 0 ≤ a) (h1 : a ≤ 10000) (h2 : 0 ≤ b) (h3 : b ≤ 10000) : 0 ≤ a * b ∧ a * b ≤ 100000000 :=
 ⟨Int.mul_nonneg h0 h2, by have := Int.mul_le_mul h1 h3 h2 (by omega : (0 : Int) ≤ 10000); omega⟩
set_option maxHeartbeats 800000 in
theorem AddFractions_any (a b c d : Int) (w : World) :
  Calls Tryz.prog 126 #[.agg #[.int .i64 a, .int .i64 b], .agg #[.int .i64 c, .int .i64 d]] w fun e w' => e = frRet (addF a b c d) ∧ Below w.heap.size w w' := by
 have HF : Hid (∀ (t b : Int) (W : World), Calls Tryz.prog 99 #[.agg #[.int .i64 t, .int .i64 b]] W fun e w' => e = .returned (.bool (fracOk t b)) ∧ Below W.heap.size W w') := fun t b W => FractionOk_any t b W
 have hB := Below.refl w.heap.size w
 cases h1 : fracOk a b
 ·have HE : Hid (addF a b c d = (0, 0, false)) := by unfold addF; rw [h1]; rfl
  go_enter Tryz.func126, Tryz.ntmps126
  go_wp2_with fail
  first | refine name_world ?_ | refine name_wp ?_
  intro W1 hW
  replace hB : Below w.heap.size w W1 := by rw [hW]; exact tacT
  have hz_W1 : w.heap.size ≤ W1.heap.size := by rw [hW]; exact sT
  replace kb_p : Blk W1 (w.heap.size) 67 #[.int .i64 a, .int .i64 b] := by rw [hW]; exact blkT
  have hLW1_p := kb_p.lt
  replace kb_q : Blk W1 (w.heap.size + 1) 67 #[.int .i64 c, .int .i64 d] := by rw [hW]; exact blkT
  have hLW1_q := kb_q.lt
  replace kb_r : Blk W1 (w.heap.size + 2) 67 #[.int .i64 0, .int .i64 0] := by rw [hW]; exact blkT
  have hLW1_r := kb_r.lt
  try clear kc_p kf_p
  try clear kc_q kf_q
  try clear kc_r kf_r
  clear hW
  refine (HF.out _ _ _).mono ?_
  rw [h1]
  rintro e w1 ⟨rfl, hb⟩
  replace hB := hB.trans (Below.mono hb hB.size)
  have hz_w1 : W1.heap.size ≤ w1.heap.size := Below.size hb
  replace kb_p := kb_p.mv hb; obtain ⟨kb_p, kc_p, kf_p, hl_p, hn_p⟩ := kb_p
  replace kb_q := kb_q.mv hb; obtain ⟨kb_q, kc_q, kf_q, hl_q, hn_q⟩ := kb_q
  replace kb_r := kb_r.mv hb; obtain ⟨kb_r, kc_r, kf_r, hl_r, hn_r⟩ := kb_r
  clear hb
  go_wp2_with fail
  refine bodyPost_ret (v := .tuple #[.agg #[.int .i64 0, .int .i64 0], .bool false]) ?_ rfl ?_
  ·simp [results, Tryz.results126, go_sem, kc_r]
  ·exact ⟨by rw [HE.out]; rfl, by exact tacT⟩
 cases h2 : fracOk c d
 ·have HE : Hid (addF a b c d = (0, 0, false)) := by unfold addF; rw [h1, h2]; rfl
  go_enter Tryz.func126, Tryz.ntmps126
  go_wp2_with fail
  first | refine name_world ?_ | refine name_wp ?_
  intro W1 hW
  replace hB : Below w.heap.size w W1 := by rw [hW]; exact tacT
  have hz_W1 : w.heap.size ≤ W1.heap.size := by rw [hW]; exact sT
  replace kb_p : Blk W1 (w.heap.size) 67 #[.int .i64 a, .int .i64 b] := by rw [hW]; exact blkT
  have hLW1_p := kb_p.lt
  replace kb_q : Blk W1 (w.heap.size + 1) 67 #[.int .i64 c, .int .i64 d] := by rw [hW]; exact blkT
  have hLW1_q := kb_q.lt
  replace kb_r : Blk W1 (w.heap.size + 2) 67 #[.int .i64 0, .int .i64 0] := by rw [hW]; exact blkT
  have hLW1_r := kb_r.lt
  try clear kc_p kf_p
  try clear kc_q kf_q
  try clear kc_r kf_r
  clear hW
  refine (HF.out _ _ _).mono ?_
  rw [h1]
  rintro e w1 ⟨rfl, hb⟩
  replace hB := hB.trans (Below.mono hb hB.size)
  have hz_w1 : W1.heap.size ≤ w1.heap.size := Below.size hb
  replace kb_p := kb_p.mv hb; obtain ⟨kb_p, kc_p, kf_p, hl_p, hn_p⟩ := kb_p
  replace kb_q := kb_q.mv hb; obtain ⟨kb_q, kc_q, kf_q, hl_q, hn_q⟩ := kb_q
  replace kb_r := kb_r.mv hb; obtain ⟨kb_r, kc_r, kf_r, hl_r, hn_r⟩ := kb_r
  clear hb
  go_wp2_with fail
  first | refine name_world ?_ | refine name_wp ?_
  intro W2 hW
  replace hB : Below w.heap.size w W2 := by rw [hW]; exact tacT
  have hz_W2 : w1.heap.size ≤ W2.heap.size := by rw [hW]; exact sT
  replace kb_p : Blk W2 (w.heap.size) 67 #[.int .i64 a, .int .i64 b] := by rw [hW]; exact blkT
  have hLW2_p := kb_p.lt
  replace kb_q : Blk W2 (w.heap.size + 1) 67 #[.int .i64 c, .int .i64 d] := by rw [hW]; exact blkT
  have hLW2_q := kb_q.lt
  replace kb_r : Blk W2 (w.heap.size + 2) 67 #[.int .i64 0, .int .i64 0] := by rw [hW]; exact blkT
  have hLW2_r := kb_r.lt
  try clear kc_p kf_p
  try clear kc_q kf_q
  try clear kc_r kf_r
  clear hW
  refine (HF.out _ _ _).mono ?_
  rw [h2]
  rintro e w2 ⟨rfl, hb⟩
  replace hB := hB.trans (Below.mono hb hB.size)
  have hz_w2 : W2.heap.size ≤ w2.heap.size := Below.size hb
  replace kb_p := kb_p.mv hb; obtain ⟨kb_p, kc_p, kf_p, hl_p, hn_p⟩ := kb_p
  replace kb_q := kb_q.mv hb; obtain ⟨kb_q, kc_q, kf_q, hl_q, hn_q⟩ := kb_q
  replace kb_r := kb_r.mv hb; obtain ⟨kb_r, kc_r, kf_r, hl_r, hn_r⟩ := kb_r
  clear hb
  go_wp2_with fail
  refine bodyPost_ret (v := .tuple #[.agg #[.int .i64 0, .int .i64 0], .bool false]) ?_ rfl ?_
  ·simp [results, Tryz.results126, go_sem, kc_r]
  ·exact ⟨by rw [HE.out]; rfl, by exact tacT⟩
 obtain ⟨a0, a1, b0, b1⟩ := fracOk_iff h1
 obtain ⟨c0, c1, d0, d1⟩ := fracOk_iff h2
 have m1 := mul_in a0 a1 (show 0 ≤ d by omega) d1
 have m2 := mul_in c0 c1 (show 0 ≤ b by omega) b1
 have m3 := mul_in (show 0 ≤ b by omega) b1 (show 0 ≤ d by omega) d1
 have m4 : 1 ≤ b * d := Int.mul_pos (by omega) (by omega)
 have HE : Hid (addF a b c d = redF (a * d + c * b).toNat (b * d).toNat) := by unfold addF; rw [h1, h2]; rfl
 obtain ⟨R, hR⟩ : ∃ R, R = redF (a * d + c * b).toNat (b * d).toNat := ⟨_, rfl⟩
 have HK : Hid (∀ W, Calls Tryz.prog 151 #[.int .i64 (a * d + c * b), .int .i64 (b * d)] W fun e w' => e = frRet R ∧ Below W.heap.size W w') := fun W => by rw [hR]; exact reduced_i _ _ W (by omega) (by omega) (by omega) (by omega)
 rw [← hR] at HE
 clear hR
 go_enter Tryz.func126, Tryz.ntmps126
 go_wp2_with fail
 first | refine name_world ?_ | refine name_wp ?_
 intro W1 hW
 replace hB : Below w.heap.size w W1 := by rw [hW]; exact tacT
 have hz_W1 : w.heap.size ≤ W1.heap.size := by rw [hW]; exact sT
 replace kb_p : Blk W1 (w.heap.size) 67 #[.int .i64 a, .int .i64 b] := by rw [hW]; exact blkT
 have hLW1_p := kb_p.lt
 replace kb_q : Blk W1 (w.heap.size + 1) 67 #[.int .i64 c, .int .i64 d] := by rw [hW]; exact blkT
 have hLW1_q := kb_q.lt
 replace kb_r : Blk W1 (w.heap.size + 2) 67 #[.int .i64 0, .int .i64 0] := by rw [hW]; exact blkT
 have hLW1_r := kb_r.lt
 try clear kc_p kf_p
 try clear kc_q kf_q
 try clear kc_r kf_r
 clear hW
 refine (HF.out _ _ _).mono ?_
 rw [h1]
 rintro e w1 ⟨rfl, hb⟩
 replace hB := hB.trans (Below.mono hb hB.size)
 have hz_w1 : W1.heap.size ≤ w1.heap.size := Below.size hb
 replace kb_p := kb_p.mv hb; obtain ⟨kb_p, kc_p, kf_p, hl_p, hn_p⟩ := kb_p
 replace kb_q := kb_q.mv hb; obtain ⟨kb_q, kc_q, kf_q, hl_q, hn_q⟩ := kb_q
 replace kb_r := kb_r.mv hb; obtain ⟨kb_r, kc_r, kf_r, hl_r, hn_r⟩ := kb_r
 clear hb
 go_wp2_with fail
 first | refine name_world ?_ | refine name_wp ?_
 intro W2 hW
 replace hB : Below w.heap.size w W2 := by rw [hW]; exact tacT
 have hz_W2 : w1.heap.size ≤ W2.heap.size := by rw [hW]; exact sT
 replace kb_p : Blk W2 (w.heap.size) 67 #[.int .i64 a, .int .i64 b] := by rw [hW]; exact blkT
 have hLW2_p := kb_p.lt
 replace kb_q : Blk W2 (w.heap.size + 1) 67 #[.int .i64 c, .int .i64 d] := by rw [hW]; exact blkT
 have hLW2_q := kb_q.lt
 replace kb_r : Blk W2 (w.heap.size + 2) 67 #[.int .i64 0, .int .i64 0] := by rw [hW]; exact blkT
 have hLW2_r := kb_r.lt
 try clear kc_p kf_p
 try clear kc_q kf_q
 try clear kc_r kf_r
 clear hW
 refine (HF.out _ _ _).mono ?_
 rw [h2]
 rintro e w2 ⟨rfl, hb⟩
 replace hB := hB.trans (Below.mono hb hB.size)
 have hz_w2 : W2.heap.size ≤ w2.heap.size := Below.size hb
 replace kb_p := kb_p.mv hb; obtain ⟨kb_p, kc_p, kf_p, hl_p, hn_p⟩ := kb_p
 replace kb_q := kb_q.mv hb; obtain ⟨kb_q, kc_q, kf_q, hl_q, hn_q⟩ := kb_q
 replace kb_r := kb_r.mv hb; obtain ⟨kb_r, kc_r, kf_r, hl_r, hn_r⟩ := kb_r
 clear hb
 go_wp2_with fail
 first | refine name_world ?_ | refine name_wp ?_
 intro W3 hW
 replace hB : Below w.heap.size w W3 := by rw [hW]; exact tacT
 have hz_W3 : w2.heap.size ≤ W3.heap.size := by rw [hW]; exact sT
 replace kb_r : Blk W3 (w.heap.size + 2) 67 #[.int .i64 0, .int .i64 0] := by rw [hW]; exact blkT
 have hLW3_r := kb_r.lt
 try clear kc_r kf_r
 clear hW
 refine (HK.out _).mono ?_
 rintro e w3 ⟨rfl, hb⟩
 unfold frRet
 replace hB := hB.trans (Below.mono hb hB.size)
 have hz_w3 : W3.heap.size ≤ w3.heap.size := Below.size hb
 replace kb_r := kb_r.mv hb; obtain ⟨kb_r, kc_r, kf_r, hl_r, hn_r⟩ := kb_r
 clear hb
 go_wp2_with fail
 refine bodyPost_ret (v := .tuple #[.agg #[.int .i64 R.1, .int .i64 R.2.1], .bool R.2.2]) ?_ rfl ?_
 ·simp [results, Tryz.results126, go_sem, kc_r]
 ·exact ⟨by rw [HE.out]; rfl, by exact tacT⟩
def makeF (t b : Int) : Int × Int × Bool := if inB t 0 100000000 && inB b 1 100000000 then redF t.toNat b.toNat else (0, 0, false)
set_option maxHeartbeats 800000 in
theorem MakeFractionS_any (t b : Int) (w : World) :
  Calls Tryz.prog 123 #[.int .i64 t, .int .i64 b] w fun e w' => e = frRet (makeF t b) ∧ Below w.heap.size w w' := by
 have hB := Below.refl w.heap.size w
 cases h1 : inB t 0 100000000
 ·have HE : Hid (makeF t b = (0, 0, false)) := by unfold makeF; rw [h1]; rfl
  go_enter Tryz.func123, Tryz.ntmps123
  go_wp2_with (go_at_call 43; refine (l01In_any _ _ _ _).mono ?_; rintro e w' ⟨rfl, rfl⟩)
  refine bodyPost_ret (v := .tuple #[.agg #[.int .i64 0, .int .i64 0], .bool false]) ?_ rfl ?_
  ·simp [results, Tryz.results123, go_sem]
  ·exact ⟨by rw [HE.out]; rfl, by exact tacT⟩
 cases h2 : inB b 1 100000000
 ·have HE : Hid (makeF t b = (0, 0, false)) := by unfold makeF; rw [h1, h2]; rfl
  go_enter Tryz.func123, Tryz.ntmps123
  go_wp2_with (go_at_call 43; refine (l01In_any _ _ _ _).mono ?_; rintro e w' ⟨rfl, rfl⟩)
  refine bodyPost_ret (v := .tuple #[.agg #[.int .i64 0, .int .i64 0], .bool false]) ?_ rfl ?_
  ·simp [results, Tryz.results123, go_sem]
  ·exact ⟨by rw [HE.out]; rfl, by exact tacT⟩
 have HM : Hid (makeF t b = redF t.toNat b.toNat) := by unfold makeF; rw [h1, h2]; rfl
 have r1 := inB_iff.1 h1
 have r2 := inB_iff.1 h2
 rw [HM.out]
 clear HM
 obtain ⟨tn, rfl⟩ := Int.eq_ofNat_of_zero_le (show 0 ≤ t by omega)
 obtain ⟨bn, rfl⟩ := Int.eq_ofNat_of_zero_le (show 0 ≤ b by omega)
 rw [Int.toNat_natCast, Int.toNat_natCast]
 obtain ⟨g, hg⟩ : ∃ g, g = Nat.gcd tn bn := ⟨_, rfl⟩
 have hg1 : 1 ≤ g := by rw [hg]; exact Nat.gcd_pos_of_pos_right _ (by omega)
 have hg2 : g ≤ 1000000000000 := by rw [hg]; have := Nat.gcd_le_right tn (show 0 < bn by omega); omega
 have HC : Hid (∀ W, Calls Tryz.prog 143 #[.int .i64 tn, .int .i64 bn] W fun e w' => e = .returned (.int .i64 g) ∧ ∃ n, w' = W.drewN n) := fun W => by rw [hg]; exact l11Gcd_any tn bn W (by omega) (by omega)
 have ew1 : wrap64 ((tn : Int) / (g : Int)) = (tn : Int) / (g : Int) := IntWalk.wrap64_in _ (div_in tn g (by omega))
 have ew2 : wrap64 ((bn : Int) / (g : Int)) = (bn : Int) / (g : Int) := IntWalk.wrap64_in _ (div_in bn g (by omega))
 have q0 : ¬ (g : Int) = 0 := by omega
 have q1 : (1 : Int) ≤ (g : Int) := by omega
 have q2 : ((g : Int) == 0) = false := by simp; omega
 cases hf : fracOk ((tn / g : Nat) : Int) ((bn / g : Nat) : Int)
 ·have HE : Hid (redF tn bn = (0, 0, false)) := by unfold redF; rw [← hg, hf]; rfl
  have HK : Hid (∀ W, Calls Tryz.prog 113 #[.agg #[.int .i64 ((tn : Int) / (g : Int)), .int .i64 ((bn : Int) / (g : Int))]] W fun e w' => e = .returned (.bool false) ∧ Below W.heap.size W w') := fun W => by rw [← hf]; exact FractionOkS_any _ _ W
  clear hg hf
  go_enter Tryz.func123, Tryz.ntmps123
  go_wp2_with (first | (go_at_call 43; refine (l01In_any _ _ _ _).mono ?_; rintro e w' ⟨rfl, rfl⟩) | (go_at_call 143; refine (HC.out _).mono ?_; rintro e w' ⟨rfl, nd, rfl⟩))
  go_region
  try simp only [ew1, ew2]
  go_wp2_with fail
  first | refine name_world ?_ | refine name_wp ?_
  intro W hW
  replace hB : Below w.heap.size w W := by rw [hW]; exact tacT
  have hz_W : w.heap.size ≤ W.heap.size := by rw [hW]; exact sT
  replace kb_p : Blk W (w.heap.size) 67 #[.int .i64 0, .int .i64 0] := by rw [hW]; exact blkT
  have hLW_p := kb_p.lt
  replace kb_q : Blk W (w.heap.size + 1) 67 #[.int .i64 ((tn : Int) / (g : Int)), .int .i64 ((bn : Int) / (g : Int))] := by rw [hW]; exact blkT
  have hLW_q := kb_q.lt
  try clear kc_p kf_p
  try clear kc_q kf_q
  clear hW
  refine (HK.out _).mono ?_
  rintro e w1 ⟨rfl, hb1⟩
  replace hB := hB.trans (Below.mono hb1 hB.size)
  have hz_w1 : W.heap.size ≤ w1.heap.size := Below.size hb1
  replace kb_p := kb_p.mv hb1; obtain ⟨kb_p, kc_p, kf_p, hl_p, hn_p⟩ := kb_p
  replace kb_q := kb_q.mv hb1; obtain ⟨kb_q, kc_q, kf_q, hl_q, hn_q⟩ := kb_q
  clear hb1
  go_wp2_with fail
  refine bodyPost_ret (v := .tuple #[.agg #[.int .i64 0, .int .i64 0], .bool false]) ?_ rfl ?_
  ·simp [results, Tryz.results123, go_sem, kc_p, kc_q]
  ·exact ⟨by rw [HE.out]; rfl, by exact tacT⟩
 ·have HE : Hid (redF tn bn = (((tn / g : Nat) : Int), ((bn / g : Nat) : Int), true)) := by unfold redF; rw [← hg, hf]; rfl
  have HK : Hid (∀ W, Calls Tryz.prog 113 #[.agg #[.int .i64 ((tn : Int) / (g : Int)), .int .i64 ((bn : Int) / (g : Int))]] W fun e w' => e = .returned (.bool true) ∧ Below W.heap.size W w') := fun W => by rw [← hf]; exact FractionOkS_any _ _ W
  clear hg hf
  go_enter Tryz.func123, Tryz.ntmps123
  go_wp2_with (first | (go_at_call 43; refine (l01In_any _ _ _ _).mono ?_; rintro e w' ⟨rfl, rfl⟩) | (go_at_call 143; refine (HC.out _).mono ?_; rintro e w' ⟨rfl, nd, rfl⟩))
  go_region
  try simp only [ew1, ew2]
  go_wp2_with fail
  first | refine name_world ?_ | refine name_wp ?_
  intro W hW
  replace hB : Below w.heap.size w W := by rw [hW]; exact tacT
  have hz_W : w.heap.size ≤ W.heap.size := by rw [hW]; exact sT
  replace kb_p : Blk W (w.heap.size) 67 #[.int .i64 0, .int .i64 0] := by rw [hW]; exact blkT
  have hLW_p := kb_p.lt
  replace kb_q : Blk W (w.heap.size + 1) 67 #[.int .i64 ((tn : Int) / (g : Int)), .int .i64 ((bn : Int) / (g : Int))] := by rw [hW]; exact blkT
  have hLW_q := kb_q.lt
  try clear kc_p kf_p
  try clear kc_q kf_q
  clear hW
  refine (HK.out _).mono ?_
  rintro e w1 ⟨rfl, hb1⟩
  replace hB := hB.trans (Below.mono hb1 hB.size)
  have hz_w1 : W.heap.size ≤ w1.heap.size := Below.size hb1
  replace kb_p := kb_p.mv hb1; obtain ⟨kb_p, kc_p, kf_p, hl_p, hn_p⟩ := kb_p
  replace kb_q := kb_q.mv hb1; obtain ⟨kb_q, kc_q, kf_q, hl_q, hn_q⟩ := kb_q
  clear hb1
  go_wp2_with fail
  refine bodyPost_ret (v := .tuple #[.agg #[.int .i64 ((tn : Int) / (g : Int)), .int .i64 ((bn : Int) / (g : Int))], .bool true]) ?_ rfl ?_
  ·simp [results, Tryz.results123, go_sem, kc_p, kc_q]
  ·exact ⟨by rw [HE.out]; rfl, by exact tacT⟩
theorem makeF_nat {x y : Nat} (hg : Nat.gcd x y = 1) (hy1 : 1 ≤ y) (hy : y ≤ 100000000) : makeF x y = redF x y := by
 unfold makeF
 by_cases hx : x ≤ 100000000
 ·rw [inB_iff.2 ⟨by omega, by omega⟩, inB_iff.2 ⟨by omega, by omega⟩]; rfl
 ·have h1 : inB (x : Int) 0 100000000 = false := inB_no.2 (by omega)
  have h2 : inB (x : Int) 0 10000 = false := inB_no.2 (by omega)
  have h3 : fracOk (x : Int) (y : Int) = false := by unfold fracOk; rw [h2]; simp
  unfold redF
  rw [h1, hg, Nat.div_one, Nat.div_one, h3]; rfl
theorem redF_red {t b g : Nat} (hb : 1 ≤ b) (hg : g = Nat.gcd t b) : redF (t / g) (b / g) = redF t b := by
 subst hg
 unfold redF
 rw [Nat.gcd_div_gcd_div_gcd_of_pos_right (by omega), Nat.div_one, Nat.div_one]
set_option maxHeartbeats 1600000 in
theorem AddFractionsS_any (a b c d : Int) (w : World) :
  Calls Tryz.prog 140 #[.agg #[.int .i64 a, .int .i64 b], .agg #[.int .i64 c, .int .i64 d]] w fun e w' => e = frRet (addF a b c d) ∧ Below w.heap.size w w' := by
 have HF : Hid (∀ (t b : Int) (W : World), Calls Tryz.prog 113 #[.agg #[.int .i64 t, .int .i64 b]] W fun e w' => e = .returned (.bool (fracOk t b)) ∧ Below W.heap.size W w') := fun t b W => FractionOkS_any t b W
 have hB := Below.refl w.heap.size w
 cases h1 : fracOk a b
 ·have HE : Hid (addF a b c d = (0, 0, false)) := by unfold addF; rw [h1]; rfl
  go_enter Tryz.func140, Tryz.ntmps140
  go_wp2_with fail
  first | refine name_world ?_ | refine name_wp ?_
  intro W1 hW
  replace hB : Below w.heap.size w W1 := by rw [hW]; exact tacT
  have hz_W1 : w.heap.size ≤ W1.heap.size := by rw [hW]; exact sT
  replace kb_p : Blk W1 (w.heap.size) 67 #[.int .i64 a, .int .i64 b] := by rw [hW]; exact blkT
  have hLW1_p := kb_p.lt
  replace kb_q : Blk W1 (w.heap.size + 1) 67 #[.int .i64 c, .int .i64 d] := by rw [hW]; exact blkT
  have hLW1_q := kb_q.lt
  replace kb_r : Blk W1 (w.heap.size + 2) 67 #[.int .i64 0, .int .i64 0] := by rw [hW]; exact blkT
  have hLW1_r := kb_r.lt
  try clear kc_p kf_p
  try clear kc_q kf_q
  try clear kc_r kf_r
  clear hW
  refine (HF.out _ _ _).mono ?_
  rw [h1]
  rintro e w1 ⟨rfl, hb⟩
  replace hB := hB.trans (Below.mono hb hB.size)
  have hz_w1 : W1.heap.size ≤ w1.heap.size := Below.size hb
  replace kb_p := kb_p.mv hb; obtain ⟨kb_p, kc_p, kf_p, hl_p, hn_p⟩ := kb_p
  replace kb_q := kb_q.mv hb; obtain ⟨kb_q, kc_q, kf_q, hl_q, hn_q⟩ := kb_q
  replace kb_r := kb_r.mv hb; obtain ⟨kb_r, kc_r, kf_r, hl_r, hn_r⟩ := kb_r
  clear hb
  go_wp2_with fail
  refine bodyPost_ret (v := .tuple #[.agg #[.int .i64 0, .int .i64 0], .bool false]) ?_ rfl ?_
  ·simp [results, Tryz.results140, go_sem, kc_r]
  ·exact ⟨by rw [HE.out]; rfl, by exact tacT⟩
 cases h2 : fracOk c d
 ·have HE : Hid (addF a b c d = (0, 0, false)) := by unfold addF; rw [h1, h2]; rfl
  go_enter Tryz.func140, Tryz.ntmps140
  go_wp2_with fail
  first | refine name_world ?_ | refine name_wp ?_
  intro W1 hW
  replace hB : Below w.heap.size w W1 := by rw [hW]; exact tacT
  have hz_W1 : w.heap.size ≤ W1.heap.size := by rw [hW]; exact sT
  replace kb_p : Blk W1 (w.heap.size) 67 #[.int .i64 a, .int .i64 b] := by rw [hW]; exact blkT
  have hLW1_p := kb_p.lt
  replace kb_q : Blk W1 (w.heap.size + 1) 67 #[.int .i64 c, .int .i64 d] := by rw [hW]; exact blkT
  have hLW1_q := kb_q.lt
  replace kb_r : Blk W1 (w.heap.size + 2) 67 #[.int .i64 0, .int .i64 0] := by rw [hW]; exact blkT
  have hLW1_r := kb_r.lt
  try clear kc_p kf_p
  try clear kc_q kf_q
  try clear kc_r kf_r
  clear hW
  refine (HF.out _ _ _).mono ?_
  rw [h1]
  rintro e w1 ⟨rfl, hb⟩
  replace hB := hB.trans (Below.mono hb hB.size)
  have hz_w1 : W1.heap.size ≤ w1.heap.size := Below.size hb
  replace kb_p := kb_p.mv hb; obtain ⟨kb_p, kc_p, kf_p, hl_p, hn_p⟩ := kb_p
  replace kb_q := kb_q.mv hb; obtain ⟨kb_q, kc_q, kf_q, hl_q, hn_q⟩ := kb_q
  replace kb_r := kb_r.mv hb; obtain ⟨kb_r, kc_r, kf_r, hl_r, hn_r⟩ := kb_r
  clear hb
  go_wp2_with fail
  first | refine name_world ?_ | refine name_wp ?_
  intro W2 hW
  replace hB : Below w.heap.size w W2 := by rw [hW]; exact tacT
  have hz_W2 : w1.heap.size ≤ W2.heap.size := by rw [hW]; exact sT
  replace kb_p : Blk W2 (w.heap.size) 67 #[.int .i64 a, .int .i64 b] := by rw [hW]; exact blkT
  have hLW2_p := kb_p.lt
  replace kb_q : Blk W2 (w.heap.size + 1) 67 #[.int .i64 c, .int .i64 d] := by rw [hW]; exact blkT
  have hLW2_q := kb_q.lt
  replace kb_r : Blk W2 (w.heap.size + 2) 67 #[.int .i64 0, .int .i64 0] := by rw [hW]; exact blkT
  have hLW2_r := kb_r.lt
  try clear kc_p kf_p
  try clear kc_q kf_q
  try clear kc_r kf_r
  clear hW
  refine (HF.out _ _ _).mono ?_
  rw [h2]
  rintro e w2 ⟨rfl, hb⟩
  replace hB := hB.trans (Below.mono hb hB.size)
  have hz_w2 : W2.heap.size ≤ w2.heap.size := Below.size hb
  replace kb_p := kb_p.mv hb; obtain ⟨kb_p, kc_p, kf_p, hl_p, hn_p⟩ := kb_p
  replace kb_q := kb_q.mv hb; obtain ⟨kb_q, kc_q, kf_q, hl_q, hn_q⟩ := kb_q
  replace kb_r := kb_r.mv hb; obtain ⟨kb_r, kc_r, kf_r, hl_r, hn_r⟩ := kb_r
  clear hb
  go_wp2_with fail
  refine bodyPost_ret (v := .tuple #[.agg #[.int .i64 0, .int .i64 0], .bool false]) ?_ rfl ?_
  ·simp [results, Tryz.results140, go_sem, kc_r]
  ·exact ⟨by rw [HE.out]; rfl, by exact tacT⟩
 obtain ⟨a0, a1, b0, b1⟩ := fracOk_iff h1
 obtain ⟨c0, c1, d0, d1⟩ := fracOk_iff h2
 have m1 := mul_in a0 a1 (show 0 ≤ d by omega) d1
 have m2 := mul_in c0 c1 (show 0 ≤ b by omega) b1
 have m3 := mul_in (show 0 ≤ b by omega) b1 (show 0 ≤ d by omega) d1
 have m4 : 1 ≤ b * d := Int.mul_pos (by omega) (by omega)
 have HE0 : addF a b c d = redF (a * d + c * b).toNat (b * d).toNat := by unfold addF; rw [h1, h2]; rfl
 obtain ⟨T, hT⟩ := Int.eq_ofNat_of_zero_le (show 0 ≤ a * d + c * b by omega)
 obtain ⟨M, hM⟩ := Int.eq_ofNat_of_zero_le (show 0 ≤ b * d by omega)
 rw [hT, hM, Int.toNat_natCast, Int.toNat_natCast] at HE0
 obtain ⟨g, hg⟩ : ∃ g, g = Nat.gcd T M := ⟨_, rfl⟩
 have hg1 : 1 ≤ g := by rw [hg]; exact Nat.gcd_pos_of_pos_right _ (by omega)
 rw [← redF_red (by omega) hg] at HE0
 have hdT : T / g ≤ T := Nat.div_le_self _ _
 have hdM : M / g ≤ M := Nat.div_le_self _ _
 have hdM1 : 1 ≤ M / g := by rw [hg]; exact Nat.div_pos (Nat.gcd_le_right _ (by omega)) (Nat.gcd_pos_of_pos_right _ (by omega))
 have eT : ((T / g : Nat) : Int) = (T : Int) / (g : Int) := Int.natCast_ediv _ _
 have eM : ((M / g : Nat) : Int) = (M : Int) / (g : Int) := Int.natCast_ediv _ _
 have HM : makeF ((T : Int) / (g : Int)) ((M : Int) / (g : Int)) = redF (T / g) (M / g) := by
  rw [← eT, ← eM]; exact makeF_nat (by rw [hg]; exact Nat.gcd_div_gcd_div_gcd_of_pos_right (by omega)) hdM1 (by omega)
 obtain ⟨R, hR⟩ : ∃ R, R = redF (T / g) (M / g) := ⟨_, rfl⟩
 rw [← hR] at HE0 HM
 have HE := Lib.hid HE0
 have HC : Hid (∀ W, Calls Tryz.prog 143 #[.int .i64 T, .int .i64 M] W fun e w' => e = .returned (.int .i64 g) ∧ ∃ n, w' = W.drewN n) := fun W => by rw [hg]; exact l11Gcd_any T M W (by omega) (by omega)
 have HK : Hid (∀ W, Calls Tryz.prog 123 #[.int .i64 ((T : Int) / (g : Int)), .int .i64 ((M : Int) / (g : Int))] W fun e w' => e = frRet R ∧ Below W.heap.size W w') := fun W => by rw [← HM]; exact MakeFractionS_any _ _ W
 have ew1 : wrap64 ((T : Int) / (g : Int)) = (T : Int) / (g : Int) := IntWalk.wrap64_in _ (div_in T g (by omega))
 have ew2 : wrap64 ((M : Int) / (g : Int)) = (M : Int) / (g : Int) := IntWalk.wrap64_in _ (div_in M g (by omega))
 have q0 : ¬ (g : Int) = 0 := by omega
 have q1 : (1 : Int) ≤ (g : Int) := by omega
 have q2 : ((g : Int) == 0) = false := by simp; omega
 have HTM := Lib.hid (And.intro hT hM)
 have hT9 : T ≤ 1000000000000 := by omega
 have hM9 : M ≤ 1000000000000 := by omega
 clear hT hM hR HE0 HM hg eT eM
 go_enter Tryz.func140, Tryz.ntmps140
 go_wp2_with fail
 first | refine name_world ?_ | refine name_wp ?_
 intro W1 hW
 replace hB : Below w.heap.size w W1 := by rw [hW]; exact tacT
 have hz_W1 : w.heap.size ≤ W1.heap.size := by rw [hW]; exact sT
 replace kb_p : Blk W1 (w.heap.size) 67 #[.int .i64 a, .int .i64 b] := by rw [hW]; exact blkT
 have hLW1_p := kb_p.lt
 replace kb_q : Blk W1 (w.heap.size + 1) 67 #[.int .i64 c, .int .i64 d] := by rw [hW]; exact blkT
 have hLW1_q := kb_q.lt
 replace kb_r : Blk W1 (w.heap.size + 2) 67 #[.int .i64 0, .int .i64 0] := by rw [hW]; exact blkT
 have hLW1_r := kb_r.lt
 try clear kc_p kf_p
 try clear kc_q kf_q
 try clear kc_r kf_r
 clear hW
 refine (HF.out _ _ _).mono ?_
 rw [h1]
 rintro e w1 ⟨rfl, hb⟩
 replace hB := hB.trans (Below.mono hb hB.size)
 have hz_w1 : W1.heap.size ≤ w1.heap.size := Below.size hb
 replace kb_p := kb_p.mv hb; obtain ⟨kb_p, kc_p, kf_p, hl_p, hn_p⟩ := kb_p
 replace kb_q := kb_q.mv hb; obtain ⟨kb_q, kc_q, kf_q, hl_q, hn_q⟩ := kb_q
 replace kb_r := kb_r.mv hb; obtain ⟨kb_r, kc_r, kf_r, hl_r, hn_r⟩ := kb_r
 clear hb
 go_wp2_with fail
 first | refine name_world ?_ | refine name_wp ?_
 intro W2 hW
 replace hB : Below w.heap.size w W2 := by rw [hW]; exact tacT
 have hz_W2 : w1.heap.size ≤ W2.heap.size := by rw [hW]; exact sT
 replace kb_p : Blk W2 (w.heap.size) 67 #[.int .i64 a, .int .i64 b] := by rw [hW]; exact blkT
 have hLW2_p := kb_p.lt
 replace kb_q : Blk W2 (w.heap.size + 1) 67 #[.int .i64 c, .int .i64 d] := by rw [hW]; exact blkT
 have hLW2_q := kb_q.lt
 replace kb_r : Blk W2 (w.heap.size + 2) 67 #[.int .i64 0, .int .i64 0] := by rw [hW]; exact blkT
 have hLW2_r := kb_r.lt
 try clear kc_p kf_p
 try clear kc_q kf_q
 try clear kc_r kf_r
 clear hW
 refine (HF.out _ _ _).mono ?_
 rw [h2]
 rintro e w2 ⟨rfl, hb⟩
 replace hB := hB.trans (Below.mono hb hB.size)
 have hz_w2 : W2.heap.size ≤ w2.heap.size := Below.size hb
 replace kb_p := kb_p.mv hb; obtain ⟨kb_p, kc_p, kf_p, hl_p, hn_p⟩ := kb_p
 replace kb_q := kb_q.mv hb; obtain ⟨kb_q, kc_q, kf_q, hl_q, hn_q⟩ := kb_q
 replace kb_r := kb_r.mv hb; obtain ⟨kb_r, kc_r, kf_r, hl_r, hn_r⟩ := kb_r
 clear hb
 go_wp2_with fail
 rw [HTM.out.1, HTM.out.2]
 refine (HC.out _).mono ?_
 rintro e w' ⟨rfl, nd, rfl⟩
 go_wp2_with fail
 have hl_r' := hl_r
 have ew3 : IntKind.i64.wrap ((T : Int) / (g : Int)) = (T : Int) / (g : Int) := IntWalk.i64_in _ (div_in T g hT9)
 have ew4 : IntKind.i64.wrap ((M : Int) / (g : Int)) = (M : Int) / (g : Int) := IntWalk.i64_in _ (div_in M g hM9)
 have q9 : ¬ g = 0 := by omega
 have ew5 : (T : Int).tdiv (g : Int) = (T : Int) / (g : Int) := Int.tdiv_eq_ediv_of_nonneg (by omega)
 have ew6 : (M : Int).tdiv (g : Int) = (M : Int) / (g : Int) := Int.tdiv_eq_ediv_of_nonneg (by omega)
 go_region_held3 (fun _ => True) (exact True.intro)
  ((go_at_call 123; refine (HK.out _).mono ?_; rintro e w3 ⟨rfl, hb3⟩; unfold frRet; have hB3 : Below w.heap.size w w3 := (by exact tacT); have kb3 : Blk w3 (w.heap.size + 2) 67 #[.int .i64 0, .int .i64 0] := Blk.below (by exact blkT) hb3 (by first | exact hl_r | (simp; omega)); have kc3 := kb3.cells; have kf3 := kb3.frozens; have hl3 := kb3.lt; have hn3 := Nat.ne_of_lt hl3; have hz3 := hb3.size; simp at hz3; try (have kb9 : Blk w3 w2.heap.size 67 #[.int .i64 0, .int .i64 0] := Blk.below (Blk.new' _ _ _ _ (by simp)) hb3 (by simp); have kc9 := kb9.cells; have kf9 := kb9.frozens; have hl9 := kb9.lt; have hne9 : w.heap.size + 2 ≠ w2.heap.size := (by omega); have hne8 : w2.heap.size ≠ w.heap.size + 2 := (by omega))))
 all_goals
  go_wp2_with fail
  refine bodyPost_ret (v := .tuple #[.agg #[.int .i64 R.1, .int .i64 R.2.1], .bool R.2.2]) ?_ rfl ?_
  ·simp [results, Tryz.results140, go_sem, kc3, hn3, hl3]
  ·exact ⟨by rw [HE.out]; rfl, by exact tacT⟩
end
end Go.Proofs.YtpmmjhpmheooeaaGreatDoor
