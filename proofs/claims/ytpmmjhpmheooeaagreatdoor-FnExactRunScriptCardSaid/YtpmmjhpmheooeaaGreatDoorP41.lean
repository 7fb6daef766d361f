/- Texts of the proof, joined: PUint. -/
import Derived.Test.YtpmmjhpmheooeaaGreatDoorP36
namespace Go.Proofs.YtpmmjhpmheooeaaGreatDoor
set_option linter.unusedSimpArgs false
set_option linter.unusedVariables false
section
open Go.RowKit
set_option maxRecDepth 20000
theorem dig_no_lt {b : UInt8} (h : (b.toNat : Int) < 48) : dig b = false := by unfold dig; simp; omega
theorem dig_no_gt {b : UInt8} (h : ¬ (b.toNat : Int) < 48) (h2 : (57 : Int) < b.toNat) : dig b = false := by unfold dig; simp; omega
theorem dig_yes {b : UInt8} (h : ¬ (b.toNat : Int) < 48) (h2 : ¬ (57 : Int) < b.toNat) : dig b = true := by unfold dig; simp; omega
set_option maxHeartbeats 3200000 in
theorem ParseUint_any (s : List UInt8) (w : World) (ht : Tab w) (hs : s.length ≤ 9223372036854775807) :
  Calls Tryz.prog 54 #[sv s] w fun e w' => e = .returned (.tuple #[.int .i64 (puVal s), .bool (puOk s)]) ∧ Below w.heap.size w w' := by
 have hB := Below.refl w.heap.size w
 by_cases hbig : 10 < s.length
 ·have HK := Lib.hid (pu_long hbig)
  have HV := Lib.hid (puVal_no HK.out)
  have d1 : ¬ (s.length : Int) < 1 := by omega
  have d2 : decide ((s.length : Int) < 1) = false := by simpa using d1
  have d3 : (10 : Int) < (s.length : Int) := by omega
  have d4 : decide ((10 : Int) < (s.length : Int)) = true := by simpa using d3
  have d5 : decide (s.length < 1) = false := decide_eq_false (by omega)
  have d6 : decide (10 < s.length) = true := by simpa using hbig
  have d7 : ¬ s.length = 0 := by omega
  go_enter Tryz.func54, Tryz.ntmps54
  go_wp2_with fail
  exact bodyPost_ret (v := .tuple #[.int .i64 0, .bool false]) (by simp [results, Tryz.results54, go_sem]) rfl ⟨by rw [HV.out, HK.out]; rfl, hB⟩
 by_cases h0 : s.length = 0
 ·obtain rfl : s = [] := List.eq_nil_of_length_eq_zero h0
  have HK := Lib.hid pu_empty
  have HV := Lib.hid (puVal_no HK.out)
  clear h0 hbig
  go_enter Tryz.func54, Tryz.ntmps54
  go_wp2_with fail
  exact bodyPost_ret (v := .tuple #[.int .i64 0, .bool false]) (by simp [results, Tryz.results54, go_sem]) rfl ⟨by rw [HV.out, HK.out]; rfl, hB⟩
 have d1 : ¬ (s.length : Int) < 1 := by omega
 have d2 : decide ((s.length : Int) < 1) = false := by simpa using d1
 have d3 : ¬ (10 : Int) < (s.length : Int) := by omega
 have d4 : decide ((10 : Int) < (s.length : Int)) = false := by simpa using d3
 have d5 : decide (s.length < 1) = false := decide_eq_false (by omega)
 have d6 : decide (10 < s.length) = false := by simpa using hbig
 go_enter Tryz.func54, Tryz.ntmps54
 go_wp2_with fail
 go_loopw [4, 5] (fun v i wr => ∃ (k : Nat), k ≤ s.length ∧ i = .int .i64 k ∧ v = .int .i64 (pval 0 (s.take k) : Nat) ∧ Hid ((s.take k).all dig = true) ∧ Below w.heap.size w wr) (fun _ i _ => s.length - (intOf i).toNat)
 case atStart => exact ⟨0, Nat.zero_le _, rfl, rfl, rfl, hB⟩
 case round =>
  obtain ⟨k, hk, rfl, rfl, HD, hB⟩ := hrel
  have hbs := hB.size
  have hpv := take_digs HD.out (by omega : s.length ≤ 10)
  by_cases hlt : k < s.length
  ·obtain ⟨b, hb⟩ : ∃ b, b = s[k] := ⟨_, rfl⟩
   have hx : s[k]? = some b := by rw [hb]; exact List.getElem?_eq_getElem hlt
   have hbk : ∀ h, (⟨s.toArray⟩ : ByteArray)[k]'h = b := fun _ => by rw [hb]; rfl
   have HX := Lib.hid hx
   have hst := pval_step hx
   have hdd := digs_step hx
   rw [HD.out, Bool.true_and] at hdd
   have HST := Lib.hid hst
   have HDD := Lib.hid hdd
   obtain ⟨p, hp⟩ : ∃ p, p = pval 0 (s.take k) := ⟨_, rfl⟩
   rw [← hp] at hpv HST ⊢
   clear hb hx hst hdd hp HD
   have hk0 : (0 : Int) ≤ (k : Int) := by omega
   have hk1 : (k : Int) < (s.length : Int) := by omega
   have hb255 : b.toNat < 256 := UInt8.toNat_lt b
   by_cases c1 : (b.toNat : Int) < 48
   ·have HK := Lib.hid (pu_nodig HX.out (dig_no_lt c1))
    have HV := Lib.hid (puVal_no HK.out)
    have c1' : decide ((b.toNat : Int) < 48) = true := decide_eq_true c1
    go_wp2_with fail
    exact bodyPost_ret (v := .tuple #[.int .i64 0, .bool false]) (by simp [results, Tryz.results54, go_sem]) rfl ⟨by rw [HV.out, HK.out]; rfl, hB⟩
   have c1' : decide ((b.toNat : Int) < 48) = false := decide_eq_false c1
   by_cases c2 : (57 : Int) < b.toNat
   ·have HK := Lib.hid (pu_nodig HX.out (dig_no_gt c1 c2))
    have HV := Lib.hid (puVal_no HK.out)
    have c2' : decide ((57 : Int) < b.toNat) = true := decide_eq_true c2
    go_wp2_with fail
    exact bodyPost_ret (v := .tuple #[.int .i64 0, .bool false]) (by simp [results, Tryz.results54, go_sem]) rfl ⟨by rw [HV.out, HK.out]; rfl, hB⟩
   have c2' : decide ((57 : Int) < b.toNat) = false := decide_eq_false c2
   have HN : Hid ((s.take (k + 1)).all dig = true) := HDD.out.trans (dig_yes c1 c2)
   go_wp2_with fail
   go_roundw
   case rel => exact ⟨k + 1, by omega, by go_num, by rw [HST.out]; refine congrArg _ ?_; omega, HN, hB⟩
   case measure => simp [intOf]; omega
  ·have hk1 : ¬ (k : Int) < (s.length : Int) := by omega
   obtain rfl : k = s.length := by omega
   rw [List.take_length] at HD hpv ⊢
   obtain ⟨p, hp⟩ : ∃ p, p = pval 0 s := ⟨_, rfl⟩
   rw [← hp] at hpv ⊢
   have HP := Lib.hid hp
   clear hp
   by_cases c1 : 1000000000 < p
   ·have HK : Hid (puOk s = false) := by show _ = _; unfold puOk; rw [← HP.out, decide_eq_false (show ¬ p ≤ 1000000000 by omega)]; simp
    have HV := Lib.hid (puVal_no HK.out)
    have e1 : (1000000000 : Int) < (p : Int) := by omega
    have e2 : decide ((1000000000 : Int) < (p : Int)) = true := decide_eq_true e1
    have e3 : decide (1000000000 < p) = true := decide_eq_true c1
    go_wp2_with fail
    exact bodyPost_ret (v := .tuple #[.int .i64 0, .bool false]) (by simp [results, Tryz.results54, go_sem]) rfl ⟨by rw [HV.out, HK.out]; rfl, hB⟩
   have e1 : ¬ (1000000000 : Int) < (p : Int) := by omega
   have e2 : decide ((1000000000 : Int) < (p : Int)) = false := decide_eq_false e1
   have e3 : decide (1000000000 < p) = false := decide_eq_false c1
   have HF := Lib.hid (FormatInt_t (p : Int) wr (by omega) (ht.below hB))
   by_cases c2 : Lib.itoa p = s
   ·have HK : Hid (puOk s = true) := by show _ = _; unfold puOk; rw [← HP.out, decide_eq_true (show p ≤ 1000000000 by omega), decide_eq_true c2, decide_eq_true (show s.length ≤ 10 by omega), HD.out]; rfl
    have HV : Hid (puVal s = p) := by show _ = _; rw [puVal_yes HK.out, HP.out]
    rw [c2] at HF
    clear c2
    go_wp2_with fail
    refine HF.out.mono ?_
    rintro e w2 ⟨rfl, hb⟩
    replace hB := hB.trans (Below.mono hb hB.size)
    have hz_w2 : wr.heap.size ≤ w2.heap.size := Below.size hb
    clear hb
    go_wp2_with fail
    exact bodyPost_ret (v := .tuple #[.int .i64 p, .bool true]) (by simp [results, Tryz.results54, go_sem]) rfl ⟨by rw [HV.out, HK.out], hB⟩
   ·have HK : Hid (puOk s = false) := by show _ = _; unfold puOk; rw [← HP.out, decide_eq_false c2]; simp
    have HV := Lib.hid (puVal_no HK.out)
    obtain ⟨t, htt⟩ : ∃ t, t = Lib.itoa (p : Int) := ⟨_, rfl⟩
    rw [← htt] at HF c2
    clear htt
    have c3 : (t == s) = false := by simpa using c2
    go_wp2_with fail
    refine HF.out.mono ?_
    rintro e w2 ⟨rfl, hb⟩
    replace hB := hB.trans (Below.mono hb hB.size)
    have hz_w2 : wr.heap.size ≤ w2.heap.size := Below.size hb
    clear hb
    go_wp2_with fail
    exact bodyPost_ret (v := .tuple #[.int .i64 0, .bool false]) (by simp [results, Tryz.results54, go_sem]) rfl ⟨by rw [HV.out, HK.out]; rfl, hB⟩
set_option maxHeartbeats 3200000 in
theorem ParseUintS_any (s : List UInt8) (w : World) (ht : Tab w) (hs : s.length ≤ 9223372036854775807) :
  Calls Tryz.prog 75 #[sv s] w fun e w' => e = .returned (.tuple #[.int .i64 (puVal s), .bool (puOk s)]) ∧ Below w.heap.size w w' := by
 have hB := Below.refl w.heap.size w
 by_cases hbig : 10 < s.length
 ·have HK := Lib.hid (pu_long hbig)
  have HV := Lib.hid (puVal_no HK.out)
  have d1 : ¬ (s.length : Int) < 1 := by omega
  have d2 : decide ((s.length : Int) < 1) = false := by simpa using d1
  have d3 : (10 : Int) < (s.length : Int) := by omega
  have d4 : decide ((10 : Int) < (s.length : Int)) = true := by simpa using d3
  have d5 : decide (s.length < 1) = false := decide_eq_false (by omega)
  have d6 : decide (10 < s.length) = true := by simpa using hbig
  have d7 : ¬ s.length = 0 := by omega
  go_enter Tryz.func75, Tryz.ntmps75
  go_wp2_with fail
  exact bodyPost_ret (v := .tuple #[.int .i64 0, .bool false]) (by simp [results, Tryz.results75, go_sem]) rfl ⟨by rw [HV.out, HK.out]; rfl, hB⟩
 have d3 : ¬ (10 : Int) < (s.length : Int) := by omega
 have d4 : decide ((10 : Int) < (s.length : Int)) = false := by simpa using d3
 have d6 : decide (10 < s.length) = false := by simpa using hbig
 go_enter Tryz.func75, Tryz.ntmps75
 go_wp2_with fail
 go_loopw [4, 5] (fun v i wr => ∃ (k : Nat), k ≤ s.length ∧ i = .int .i64 k ∧ v = .int .i64 (pval 0 (s.take k) : Nat) ∧ Hid ((s.take k).all dig = true) ∧ Below w.heap.size w wr) (fun _ i _ => s.length - (intOf i).toNat)
 case atStart => exact ⟨0, Nat.zero_le _, rfl, rfl, rfl, hB⟩
 case round =>
  obtain ⟨k, hk, rfl, rfl, HD, hB⟩ := hrel
  have hbs := hB.size
  have hpv := take_digs HD.out (by omega : s.length ≤ 10)
  by_cases hlt : k < s.length
  ·obtain ⟨b, hb⟩ : ∃ b, b = s[k] := ⟨_, rfl⟩
   have hx : s[k]? = some b := by rw [hb]; exact List.getElem?_eq_getElem hlt
   have hbk : ∀ h, (⟨s.toArray⟩ : ByteArray)[k]'h = b := fun _ => by rw [hb]; rfl
   have HX := Lib.hid hx
   have hst := pval_step hx
   have hdd := digs_step hx
   rw [HD.out, Bool.true_and] at hdd
   have HST := Lib.hid hst
   have HDD := Lib.hid hdd
   obtain ⟨p, hp⟩ : ∃ p, p = pval 0 (s.take k) := ⟨_, rfl⟩
   rw [← hp] at hpv HST ⊢
   clear hb hx hst hdd hp HD
   have hk0 : (0 : Int) ≤ (k : Int) := by omega
   have hk1 : (k : Int) < (s.length : Int) := by omega
   have hb255 : b.toNat < 256 := UInt8.toNat_lt b
   by_cases c1 : (b.toNat : Int) < 48
   ·have HK := Lib.hid (pu_nodig HX.out (dig_no_lt c1))
    have HV := Lib.hid (puVal_no HK.out)
    have c1' : decide ((b.toNat : Int) < 48) = true := decide_eq_true c1
    go_wp2_with fail
    exact bodyPost_ret (v := .tuple #[.int .i64 0, .bool false]) (by simp [results, Tryz.results75, go_sem]) rfl ⟨by rw [HV.out, HK.out]; rfl, hB⟩
   have c1' : decide ((b.toNat : Int) < 48) = false := decide_eq_false c1
   by_cases c2 : (57 : Int) < b.toNat
   ·have HK := Lib.hid (pu_nodig HX.out (dig_no_gt c1 c2))
    have HV := Lib.hid (puVal_no HK.out)
    have c2' : decide ((57 : Int) < b.toNat) = true := decide_eq_true c2
    go_wp2_with fail
    exact bodyPost_ret (v := .tuple #[.int .i64 0, .bool false]) (by simp [results, Tryz.results75, go_sem]) rfl ⟨by rw [HV.out, HK.out]; rfl, hB⟩
   have c2' : decide ((57 : Int) < b.toNat) = false := decide_eq_false c2
   have HN : Hid ((s.take (k + 1)).all dig = true) := HDD.out.trans (dig_yes c1 c2)
   go_wp2_with fail
   go_roundw
   case rel => exact ⟨k + 1, by omega, by go_num, by rw [HST.out]; refine congrArg _ ?_; omega, HN, hB⟩
   case measure => simp [intOf]; omega
  ·have hk1 : ¬ (k : Int) < (s.length : Int) := by omega
   obtain rfl : k = s.length := by omega
   rw [List.take_length] at HD hpv ⊢
   obtain ⟨p, hp⟩ : ∃ p, p = pval 0 s := ⟨_, rfl⟩
   rw [← hp] at hpv ⊢
   have HP := Lib.hid hp
   clear hp
   by_cases c1 : 1000000000 < p
   ·have HK : Hid (puOk s = false) := by show _ = _; unfold puOk; rw [← HP.out, decide_eq_false (show ¬ p ≤ 1000000000 by omega)]; simp
    have HV := Lib.hid (puVal_no HK.out)
    have e1 : (1000000000 : Int) < (p : Int) := by omega
    have e2 : decide ((1000000000 : Int) < (p : Int)) = true := decide_eq_true e1
    have e3 : decide (1000000000 < p) = true := decide_eq_true c1
    go_wp2_with fail
    exact bodyPost_ret (v := .tuple #[.int .i64 0, .bool false]) (by simp [results, Tryz.results75, go_sem]) rfl ⟨by rw [HV.out, HK.out]; rfl, hB⟩
   have e1 : ¬ (1000000000 : Int) < (p : Int) := by omega
   have e2 : decide ((1000000000 : Int) < (p : Int)) = false := decide_eq_false e1
   have e3 : decide (1000000000 < p) = false := decide_eq_false c1
   have HF := Lib.hid (FormatIntS_t (p : Int) wr (by omega) (ht.below hB))
   by_cases c2 : Lib.itoa p = s
   ·have HK : Hid (puOk s = true) := by show _ = _; unfold puOk; rw [← HP.out, decide_eq_true (show p ≤ 1000000000 by omega), decide_eq_true c2, decide_eq_true (show s.length ≤ 10 by omega), HD.out]; rfl
    have HV : Hid (puVal s = p) := by show _ = _; rw [puVal_yes HK.out, HP.out]
    rw [c2] at HF
    clear c2
    go_wp2_with fail
    refine HF.out.mono ?_
    rintro e w2 ⟨rfl, hb⟩
    replace hB := hB.trans (Below.mono hb hB.size)
    have hz_w2 : wr.heap.size ≤ w2.heap.size := Below.size hb
    clear hb
    go_wp2_with fail
    exact bodyPost_ret (v := .tuple #[.int .i64 p, .bool true]) (by simp [results, Tryz.results75, go_sem]) rfl ⟨by rw [HV.out, HK.out], hB⟩
   ·have HK : Hid (puOk s = false) := by show _ = _; unfold puOk; rw [← HP.out, decide_eq_false c2]; simp
    have HV := Lib.hid (puVal_no HK.out)
    obtain ⟨t, htt⟩ : ∃ t, t = Lib.itoa (p : Int) := ⟨_, rfl⟩
    rw [← htt] at HF c2
    clear htt
    have c3 : (t == s) = false := by simpa using c2
    go_wp2_with fail
    refine HF.out.mono ?_
    rintro e w2 ⟨rfl, hb⟩
    replace hB := hB.trans (Below.mono hb hB.size)
    have hz_w2 : wr.heap.size ≤ w2.heap.size := Below.size hb
    clear hb
    go_wp2_with fail
    exact bodyPost_ret (v := .tuple #[.int .i64 0, .bool false]) (by simp [results, Tryz.results75, go_sem]) rfl ⟨by rw [HV.out, HK.out]; rfl, hB⟩
end
end Go.Proofs.YtpmmjhpmheooeaaGreatDoor
