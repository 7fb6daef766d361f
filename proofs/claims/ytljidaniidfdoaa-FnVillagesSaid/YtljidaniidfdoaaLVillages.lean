/- The law FnVillages answers true for every code. No conditions. -/
import Derived.Test.YtljidaniidfdoaaVillagesLaw
import Derived.Test.YtljidaniidfdoaaOpenBytes
import Derived.Test.YtljidaniidfdoaaDoAct
namespace Go.Proofs.Ytljidaniidfdoaa
open Go.ChangeShapes Go.WideShapes Go.ChangeAt Go.RowKit
set_option maxRecDepth 20000
set_option maxHeartbeats 12800000 in
theorem walk_FnVillages (w0 : World) (A0 : Option Addr) (c0 : Nat) (l0 : List Int) (h0 : RdY w0 w0.heap.size A0 c0 l0) :
    Calls Try.prog 6 #[.slice A0 l0.length c0] w0 fun e w' => e = .returned (.bool true) ∧ Below w0.heap.size w0 w' := by
  obtain ⟨hl0, hm0⟩ := h0.le
  by_cases hbig : (1048576 : Int) < l0.length
  · go_enter Try.func6, Try.ntmps6
    go_wp2_with fail
    refine (big_any A0 l0.length c0 w0 (by omega)).mono ?_
    rintro e w1 ⟨rfl, rfl⟩
    go_wp2_with fail
    go_ret
    exact ⟨rfl, Below.refl _ _⟩
  have hs : l0.length ≤ 1048576 := by omega
  have hbd : decide ((1048576 : Int) < l0.length) = false := by simpa using hbig
  go_enter Try.func6, Try.ntmps6
  go_wp2_with fail
  refine (big_any A0 l0.length c0 w0 (by omega)).mono ?_
  rintro e w1 ⟨rfl, rfl⟩
  rw [hbd]
  go_wp2_with fail
  refine (DrawVillage_any A0 c0 l0 w0 h0 hs).mono ?_
  rintro e w ⟨A, c, R, d, v, rfl, ⟨hq, hrt⟩, hr1, hr2, hB00⟩
  have HB0 := Lib.hid hB00
  have HAT : Hid (∀ (W : World) (i : Nat), i ≤ 1000 → Below w.heap.size w W → Calls Try.prog 30 #[.slice A0 l0.length c0, .int .i64 i] W fun e w' => e = .returned (.int .i64 (atV l0 i)) ∧ W = w') := fun W i hi hb => at_val A0 c0 l0 i W (RdY.below h0 (HB0.out.trans (hb.mono HB0.out.size))) hi hs
  have hv : villageOk v = true := by unfold villageOk; rw [hq.1, hrt.1]; rfl
  have hlen7 := hq.2.1
  have hrf := rights_facts hrt.1
  have hbal := book_level hq.1
  have hbbd := book_bd hq.1
  -- the owner
  have ha0 := atV_bd h0 0
  have ha1 := atV_bd h0 1
  obtain ⟨a0, hA0⟩ : ∃ a0, a0 = atV l0 0 := ⟨_, rfl⟩
  obtain ⟨a1, hA1⟩ : ∃ a1, a1 = atV l0 1 := ⟨_, rfl⟩
  have HAT0 : Hid (∀ W, Below w.heap.size w W → Calls Try.prog 30 #[.slice A0 l0.length c0, .int .i64 0] W fun e w' => e = .returned (.int .i64 a0) ∧ W = w') := fun W hb => by rw [hA0]; exact HAT.out W 0 (by omega) hb
  have HAT1 : Hid (∀ W, Below w.heap.size w W → Calls Try.prog 30 #[.slice A0 l0.length c0, .int .i64 1] W fun e w' => e = .returned (.int .i64 a1) ∧ W = w') := fun W hb => by rw [hA1]; exact HAT.out W 1 (by omega) hb
  rw [← hA0] at ha0
  rw [← hA1] at ha1
  clear hA0 hA1 HAT
  obtain ⟨n0, rfl⟩ := Int.eq_ofNat_of_zero_le ha0.1
  have hk : n0 % v.rights.length < v.rights.length := Nat.mod_lt _ (by omega)
  have hm1 : ((n0 : Nat) : Int).tmod (v.rights.length : Int) = ((n0 % v.rights.length : Nat) : Int) := by rw [Int.tmod_eq_emod_of_nonneg (by omega)]; push_cast; rfl
  have hm2 : ((n0 : Nat) : Int) % (v.rights.length : Int) = ((n0 % v.rights.length : Nat) : Int) := by push_cast; rfl
  obtain ⟨k, hkk⟩ : ∃ k, k = n0 % v.rights.length := ⟨_, rfl⟩
  rw [← hkk] at hk hm1 hm2
  clear hkk
  obtain ⟨bb, oo, e1, rfl, hbb, he1, hc0, -, -⟩ := hr2.at_ hk
  obtain ⟨ow, hOW⟩ : ∃ ow, ow = e1.x := ⟨_, rfl⟩
  have ho : hasO v.rights ow = true := by simp only [hasO, List.any_eq_true]; exact ⟨e1, List.mem_of_getElem? he1, by rw [hOW]; simp⟩
  have hnew : ∀ n : Int, 12 < n → ∀ e ∈ v.rights, e.x ≠ n := fun n hn e he h9 => by have := hrt.2 e he; omega
  have hno : ∀ n : Int, 12 < n → hasO v.rights n = false := fun n hn => by
    simp only [hasO, List.any_eq_false]
    intro e he
    simpa using hnew n hn e he
  rw [← hOW] at hc0
  clear he1 hOW
  have h998 : mayDrink v 998 = 0 := may_not hv (hno 998 (by omega))
  have hD := vg_drink hv ho
  have hRN := vg_rain (w := a1) hv ho ha1.1 ha1.2
  have hLK := vg_leak hv
  have hSL := vg_sell (n := 600) hv ho (hnew 600 (by omega))
  have hPS := vg_pass (n := 601) (m := 602) hv ho (hnew 601 (by omega)) (hnew 602 (by omega)) (by omega)
  have hmb := may_bd hv ho
  obtain ⟨m, hM⟩ : ∃ m, m = mayDrink v ow := ⟨_, rfl⟩
  rw [← hM] at hD hRN hmb
  have d40 : decide (v.book.evs.length < 40) = true := decide_eq_true (by omega)
  rw [d40] at hD hRN hLK
  obtain ⟨⟨⟨⟨droom, dstart, dl, dlv, dra, ddr, dlo⟩, drs⟩, okd⟩, hEd⟩ : ∃ r, vDrink v ow m = r := ⟨_, rfl⟩
  rw [hEd] at hD
  obtain ⟨⟨⟨⟨xroom, xstart, xl, xlv, xra, xdr, xlo⟩, xrs⟩, okx⟩, hEx⟩ : ∃ r, vDrink v ow (m + 1) = r := ⟨_, rfl⟩
  rw [hEx] at hD
  obtain ⟨⟨⟨⟨rroom, rstart, rl, rlv, rra, rdr, rlo⟩, rrs⟩, okr⟩, hEr⟩ : ∃ r, vEnter v ⟨1, a1, 0⟩ = r := ⟨_, rfl⟩
  rw [hEr] at hRN
  obtain ⟨⟨⟨⟨kroom, kstart, kl, klv, kra, kdr, klo⟩, krs⟩, okk⟩, hEk⟩ : ∃ r, vEnter v ⟨3, v.book.level, 0⟩ = r := ⟨_, rfl⟩
  rw [hEk] at hLK
  obtain ⟨⟨⟨⟨sroom, sstart, sl, slv, sra, sdr, slo⟩, srs⟩, oks⟩, hEs⟩ : ∃ r, vSell v ow 600 1 2 = r := ⟨_, rfl⟩
  rw [hEs] at hSL
  obtain ⟨⟨⟨⟨hroom, hstart, hl, hlv, hra, hdr, hlo⟩, hrs⟩, okh⟩, hEh⟩ : ∃ r, vPass v ow [601, 602] = r := ⟨_, rfl⟩
  rw [hEh] at hPS
  obtain ⟨mr, hMR⟩ : ∃ mr, mr = mayDrink ⟨⟨rroom, rstart, rl, rlv, rra, rdr, rlo⟩, rrs⟩ ow := ⟨_, rfl⟩
  rw [← hMR] at hRN
  simp only [Bool.and_true] at hD hRN hLK hSL hPS
  obtain ⟨hD0, rfl, hD2, hD3⟩ := hD
  obtain ⟨rfl, hRN2⟩ := hRN
  obtain ⟨rfl, hLK2⟩ := hLK
  obtain ⟨rfl, hmr⟩ := hRN2 rfl
  obtain rfl := hLK2 rfl
  have HD2 := Lib.hid hD2
  clear hD2
  -- the contracts
  have HE40 : Hid (∀ e : T3, (vEnter v e).1.book.evs.length ≤ v.book.evs.length + 1) := fun e => (vEnter_len v e).1
  have HD : Hid (∀ (W : World), Below w.heap.size w W → Calls Try.prog 33 #[v.val A c (some ⟨bb, oo, none⟩) d, .int .i64 ow, .int .i64 m] W fun e w' => ∃ A c R d, e = .returned (.tuple #[.agg #[.int .i64 droom, .int .i64 dstart, .slice A dl.length c, .int .i64 dlv, .int .i64 dra, .int .i64 ddr, .int .i64 dlo, .slice R drs.length d], .bool okd]) ∧ RdT w' w'.heap.size A c dl ∧ RdT w' w'.heap.size R d drs ∧ Below W.heap.size W w') := fun W hb => by
    have h9 := Drink_any A c (some ⟨bb, oo, none⟩) d v ow m W (hr1.below hb) (hr2.below hb) (by omega)
    rw [hEd] at h9
    exact h9.mono fun e w' ⟨A', c', R', d', q1, q2, q3, q4⟩ => ⟨A', c', R', d', q1, Rd.of_own q2, Rd.of_own q3, q4⟩
  have HX : Hid (∀ (W : World), Below w.heap.size w W → Calls Try.prog 33 #[v.val A c (some ⟨bb, oo, none⟩) d, .int .i64 ow, .int .i64 (m + 1)] W fun e w' => ∃ A c R d, e = .returned (.tuple #[.agg #[.int .i64 xroom, .int .i64 xstart, .slice A xl.length c, .int .i64 xlv, .int .i64 xra, .int .i64 xdr, .int .i64 xlo, .slice R xrs.length d], .bool false]) ∧ RdT w' w'.heap.size A c xl ∧ RdT w' w'.heap.size R d xrs ∧ Below W.heap.size W w') := fun W hb => by
    have h9 := Drink_any A c (some ⟨bb, oo, none⟩) d v ow (m + 1) W (hr1.below hb) (hr2.below hb) (by omega)
    rw [hEx] at h9
    exact h9.mono fun e w' ⟨A', c', R', d', q1, q2, q3, q4⟩ => ⟨A', c', R', d', q1, Rd.of_own q2, Rd.of_own q3, q4⟩
  have HR : Hid (∀ (W : World), Below w.heap.size w W → Calls Try.prog 34 #[v.val A c (some ⟨bb, oo, none⟩) d, .int .i64 a1] W fun e w' => ∃ A c R d, e = .returned (.tuple #[.agg #[.int .i64 rroom, .int .i64 rstart, .slice A rl.length c, .int .i64 rlv, .int .i64 (v.book.rained + a1), .int .i64 rdr, .int .i64 rlo, .slice R rrs.length d], .bool true]) ∧ RdT w' w'.heap.size A c rl ∧ RdT w' w'.heap.size R d rrs ∧ Below W.heap.size W w') := fun W hb => by
    have h9 := RainFalls_any A c (some ⟨bb, oo, none⟩) d v a1 W (hr1.below hb) (hr2.below hb) (by omega)
    rw [hEr] at h9
    exact h9.mono fun e w' ⟨A', c', R', d', q1, q2, q3, q4⟩ => ⟨A', c', R', d', q1, Rd.of_own q2, Rd.of_own q3, q4⟩
  have HL : Hid (∀ (W : World), Below w.heap.size w W → Calls Try.prog 35 #[v.val A c (some ⟨bb, oo, none⟩) d, .int .i64 v.book.level] W fun e w' => ∃ A c R d, e = .returned (.tuple #[.agg #[.int .i64 kroom, .int .i64 kstart, .slice A kl.length c, .int .i64 0, .int .i64 kra, .int .i64 kdr, .int .i64 klo, .slice R krs.length d], .bool true]) ∧ RdT w' w'.heap.size A c kl ∧ RdT w' w'.heap.size R d krs ∧ Below W.heap.size W w') := fun W hb => by
    have h9 := LeakOut_any A c (some ⟨bb, oo, none⟩) d v v.book.level W (hr1.below hb) (hr2.below hb) (by omega)
    rw [hEk] at h9
    exact h9.mono fun e w' ⟨A', c', R', d', q1, q2, q3, q4⟩ => ⟨A', c', R', d', q1, Rd.of_own q2, Rd.of_own q3, q4⟩
  have HS : Hid (∀ (W : World), Below w.heap.size w W → Calls Try.prog 20 #[v.val A c (some ⟨bb, oo, none⟩) d, .int .i64 ow, .int .i64 600, .agg #[.int .i64 1, .int .i64 2]] W fun e w' => ∃ A c R d, e = .returned (.tuple #[.agg #[.int .i64 sroom, .int .i64 sstart, .slice A sl.length c, .int .i64 slv, .int .i64 sra, .int .i64 sdr, .int .i64 slo, .slice R srs.length d], .bool oks]) ∧ RdT w' w'.heap.size A c sl ∧ RdT w' w'.heap.size R d srs ∧ Below W.heap.size W w') := fun W hb => by
    have h9 := Sell_any A c (some ⟨bb, oo, none⟩) d v ow 600 1 2 W (hr1.below hb) (hr2.below hb) (by omega)
    rw [hEs] at h9
    exact h9.mono fun e w' ⟨A', c', R', d', q1, q2, q3, q4⟩ => ⟨A', c', R', d', q1, Rd.of_own q2, Rd.of_own q3, q4⟩
  have HP : Hid (∀ (W : World) (B9 : Option Addr) (e9 : Nat), Below w.heap.size w W → RdI W W.heap.size B9 e9 [601, 602] → Calls Try.prog 26 #[v.val A c (some ⟨bb, oo, none⟩) d, .int .i64 ow, .slice B9 2 e9] W fun e w' => ∃ A c R d, e = .returned (.tuple #[.agg #[.int .i64 hroom, .int .i64 hstart, .slice A hl.length c, .int .i64 hlv, .int .i64 hra, .int .i64 hdr, .int .i64 hlo, .slice R hrs.length d], .bool okh]) ∧ RdT w' w'.heap.size A c hl ∧ RdT w' w'.heap.size R d hrs ∧ Below W.heap.size W w') := fun W B9 e9 hb hi => by
    have h9 := PassOn_any A c (some ⟨bb, oo, none⟩) d v ow B9 e9 [601, 602] W (hr1.below hb) (hr2.below hb) hi (by omega)
    rw [hEh] at h9
    exact h9.mono fun e w' ⟨A', c', R', d', q1, q2, q3, q4⟩ => ⟨A', c', R', d', q1, Rd.of_own q2, Rd.of_own q3, q4⟩
  have HM : Hid (∀ W, Below w.heap.size w W → Calls Try.prog 31 #[v.val A c (some ⟨bb, oo, none⟩) d, .int .i64 ow] W fun e w' => e = .returned (.int .i64 m) ∧ Below W.heap.size W w') := fun W hb => by rw [hM]; exact MayDrink_any A c (some ⟨bb, oo, none⟩) d v ow W (hr1.below hb) (hr2.below hb) (by omega)
  have HM9 : Hid (∀ W, Below w.heap.size w W → Calls Try.prog 31 #[v.val A c (some ⟨bb, oo, none⟩) d, .int .i64 998] W fun e w' => e = .returned (.int .i64 0) ∧ Below W.heap.size W w') := fun W hb => by rw [← h998]; exact MayDrink_any A c (some ⟨bb, oo, none⟩) d v 998 W (hr1.below hb) (hr2.below hb) (by omega)
  have HV : Hid (∀ W, Below w.heap.size w W → Calls Try.prog 32 #[v.val A c (some ⟨bb, oo, none⟩) d] W fun e w' => e = .returned (.bool true) ∧ Below W.heap.size W w') := fun W hb => by rw [← hv]; exact VillageOk_any A c (some ⟨bb, oo, none⟩) d v W (hr1.below hb) (hr2.below hb) (by omega)
  have HO : Hid (∀ W, Calls Try.prog 36 #[.int .i64 80, .int .i64 30, .int .i64 4] W fun e w' => ∃ A c R d, e = .returned (.tuple #[.agg #[.int .i64 80, .int .i64 30, .slice A 0 c, .int .i64 30, .int .i64 0, .int .i64 0, .int .i64 0, .slice R 1 d], .bool true]) ∧ RdT w' w'.heap.size A c [] ∧ RdT w' w'.heap.size R d [⟨4, 1, 1⟩] ∧ Below W.heap.size W w') := fun W => by
    have h9 := OpenVillage_any 80 30 4 W
    rw [open_80] at h9
    exact h9.mono fun e w' ⟨A', c', R', d', q1, q2, q3, q4⟩ => ⟨A', c', R', d', q1, Rd.of_own q2, Rd.of_own q3, q4⟩
  have HON : Hid (∀ (W : World) (A : Option Addr) (c : Nat) (R : Option Addr) (d : Nat), RdT W W.heap.size A c [] → RdT W W.heap.size R d [⟨4, 1, 1⟩] → Calls Try.prog 31 #[.agg #[.int .i64 80, .int .i64 30, .slice A 0 c, .int .i64 30, .int .i64 0, .int .i64 0, .int .i64 0, .slice R 1 d], .int .i64 4] W fun e w' => e = .returned (.int .i64 30) ∧ Below W.heap.size W w') := fun W A c R d q1 q2 => by
    have h9 := MayDrink_any A c R d (newV 80 30 4) 4 W q1 q2 (by simp [newV])
    rw [may_80] at h9
    exact h9
  have hdl : dl.length ≤ 48 := by have h9 := (vDrink_len v ow m).1; rw [hEd] at h9; simp only at h9; omega
  have hrl : rl.length ≤ 48 := by have h9 := HE40.out ⟨1, a1, 0⟩; rw [hEr] at h9; simp only at h9; omega
  have hsl : sl.length ≤ 48 := by have h9 := (vSell_len v ow 600 1 2).1; rw [hEs] at h9; simp only at h9; omega
  have hhl : hl.length ≤ 48 := by have h9 := (vPass_len v ow [601, 602]).1; rw [hEh] at h9; simp only at h9; omega
  have HDM : Hid (∀ (W : World) (A : Option Addr) (c : Nat) (R : Option Addr) (d : Nat), RdT W W.heap.size A c dl → RdT W W.heap.size R d drs → okd = true → Calls Try.prog 31 #[.agg #[.int .i64 droom, .int .i64 dstart, .slice A dl.length c, .int .i64 dlv, .int .i64 dra, .int .i64 ddr, .int .i64 dlo, .slice R drs.length d], .int .i64 ow] W fun e w' => e = .returned (.int .i64 0) ∧ Below W.heap.size W w') := fun W A c R d q1 q2 q3 => by
    have h9 := MayDrink_any A c R d ⟨⟨droom, dstart, dl, dlv, dra, ddr, dlo⟩, drs⟩ ow W q1 q2 (by show dl.length ≤ _; omega)
    rw [(hD3 q3).1] at h9
    exact h9
  have HDV : Hid (∀ (W : World) (A : Option Addr) (c : Nat) (R : Option Addr) (d : Nat), RdT W W.heap.size A c dl → RdT W W.heap.size R d drs → okd = true → Calls Try.prog 32 #[.agg #[.int .i64 droom, .int .i64 dstart, .slice A dl.length c, .int .i64 dlv, .int .i64 dra, .int .i64 ddr, .int .i64 dlo, .slice R drs.length d]] W fun e w' => e = .returned (.bool true) ∧ Below W.heap.size W w') := fun W A c R d q1 q2 q3 => by
    have h9 := VillageOk_any A c R d ⟨⟨droom, dstart, dl, dlv, dra, ddr, dlo⟩, drs⟩ W q1 q2 (by show dl.length ≤ _; omega)
    rw [(hD3 q3).2.2] at h9
    exact h9
  have HRM : Hid (∀ (W : World) (A : Option Addr) (c : Nat) (R : Option Addr) (d : Nat), RdT W W.heap.size A c rl → RdT W W.heap.size R d rrs → Calls Try.prog 31 #[.agg #[.int .i64 rroom, .int .i64 rstart, .slice A rl.length c, .int .i64 rlv, .int .i64 (v.book.rained + a1), .int .i64 rdr, .int .i64 rlo, .slice R rrs.length d], .int .i64 ow] W fun e w' => e = .returned (.int .i64 mr) ∧ Below W.heap.size W w') := fun W A c R d q1 q2 => by
    have h9 := MayDrink_any A c R d ⟨⟨rroom, rstart, rl, rlv, (v.book.rained + a1), rdr, rlo⟩, rrs⟩ ow W q1 q2 (by show rl.length ≤ _; omega)
    rw [← hMR] at h9
    exact h9
  have HSV : Hid (∀ (W : World) (A : Option Addr) (c : Nat) (R : Option Addr) (d : Nat), RdT W W.heap.size A c sl → RdT W W.heap.size R d srs → oks = true → Calls Try.prog 32 #[.agg #[.int .i64 sroom, .int .i64 sstart, .slice A sl.length c, .int .i64 slv, .int .i64 sra, .int .i64 sdr, .int .i64 slo, .slice R srs.length d]] W fun e w' => e = .returned (.bool true) ∧ Below W.heap.size W w') := fun W A c R d q1 q2 q3 => by
    have h9 := VillageOk_any A c R d ⟨⟨sroom, sstart, sl, slv, sra, sdr, slo⟩, srs⟩ W q1 q2 (by show sl.length ≤ _; omega)
    rw [(hSL q3).1] at h9
    exact h9
  have HHV : Hid (∀ (W : World) (A : Option Addr) (c : Nat) (R : Option Addr) (d : Nat), RdT W W.heap.size A c hl → RdT W W.heap.size R d hrs → okh = true → Calls Try.prog 32 #[.agg #[.int .i64 hroom, .int .i64 hstart, .slice A hl.length c, .int .i64 hlv, .int .i64 hra, .int .i64 hdr, .int .i64 hlo, .slice R hrs.length d]] W fun e w' => e = .returned (.bool true) ∧ Below W.heap.size W w') := fun W A c R d q1 q2 q3 => by
    have h9 := VillageOk_any A c R d ⟨⟨hroom, hstart, hl, hlv, hra, hdr, hlo⟩, hrs⟩ W q1 q2 (by show hl.length ≤ _; omega)
    rw [(hPS q3).1] at h9
    exact h9
  have HHM : Hid (∀ (W : World) (A : Option Addr) (c : Nat) (R : Option Addr) (d : Nat), RdT W W.heap.size A c hl → RdT W W.heap.size R d hrs → okh = true → Calls Try.prog 31 #[.agg #[.int .i64 hroom, .int .i64 hstart, .slice A hl.length c, .int .i64 hlv, .int .i64 hra, .int .i64 hdr, .int .i64 hlo, .slice R hrs.length d], .int .i64 ow] W fun e w' => e = .returned (.int .i64 0) ∧ Below W.heap.size W w') := fun W A c R d q1 q2 q3 => by
    have h9 := MayDrink_any A c R d ⟨⟨hroom, hstart, hl, hlv, hra, hdr, hlo⟩, hrs⟩ ow W q1 q2 (by show hl.length ≤ _; omega)
    rw [(hPS q3).2.2] at h9
    exact h9
  have HDL : Hid (okd = true → dlv = v.book.level - m) := fun h => (hD3 h).2.1
  have HSL : Hid (oks = true → srs.length = v.rights.length + 1 ∧ slv = v.book.level) := fun h => ⟨(hSL h).2.1, by have h9 := (hSL h).2.2; rw [← h9]⟩
  have HPL : Hid (okh = true → hrs.length = v.rights.length + 1) := fun h => (hPS h).2.1
  clear hD3 hSL hPS hEd hEx hEr hEk hEs hEh hMR hM h998 hLK2 hRN2 HE40 hnew hno hv hq hrt d40
  unfold Vg.val at HD HX HR HL HS HP HM HM9 HV ⊢
  obtain ⟨⟨room, start, l, lv, ra, dr, lo⟩, rs⟩ := v
  simp only at *
  have h40 : (l.length : Int) < 40 := by omega
  have d40 : decide ((l.length : Int) < 40) = true := decide_eq_true h40
  have hrl0 : ((rs.length : Int) == 0) = false := beq_eq_false_iff_ne.2 (by omega)
  have hrl1 : ¬ (rs.length : Int) = 0 := by omega
  have k0 : (0 : Int) ≤ (k : Int) := by omega
  have k1 : (k : Int) < (rs.length : Int) := by omega
  have hm0' : ¬ m < 0 := by omega
  have hw1 : IntKind.i64.wrap (m + 1) = m + 1 := IntWalk.i64_in _ (by omega)
  have hw2 : IntKind.i64.wrap (lv - m) = lv - m := IntWalk.i64_in _ (by omega)
  have hw3 : IntKind.i64.wrap (ra + a1) = ra + a1 := IntWalk.i64_in _ (by omega)
  have hw4 : IntKind.i64.wrap ((rs.length : Int) + 1) = (rs.length : Int) + 1 := IntWalk.i64_in _ (by omega)
  have hmr' : ¬ mr < m := by omega
  clear hr1 hr2
  have hB := Below.refl w.heap.size w
  go_wp2_with fail
  first | refine name_world ?_ | refine name_wp ?_
  intro W1 hW
  replace hB : Below w.heap.size w W1 := by rw [hW]; exact tacT
  have hz_W1 : w.heap.size ≤ W1.heap.size := by rw [hW]; first | (simp; done) | (simp; omega)
  replace kb_v : Blk W1 (w.heap.size) 47 #[.int .i64 room, .int .i64 start, .slice A l.length c, .int .i64 lv, .int .i64 ra, .int .i64 dr, .int .i64 lo, .slice (some ⟨bb, oo, none⟩) rs.length d] := by rw [hW]; exact blkT
  have hLW1_v := kb_v.lt
  try clear kc_v kf_v
  clear hW
  have f_v : ∀ (z : NewW W1) (i : Nat), z.w.cell? ⟨w.heap.size, i, none⟩ = #[.int .i64 room, .int .i64 start, .slice A l.length c, .int .i64 lv, .int .i64 ra, .int .i64 dr, .int .i64 lo, .slice (some ⟨bb, oo, none⟩) rs.length d][i]? := fun z i => (kb_v.newW z).cells i
  have f_e : ∀ z : NewW W1, z.w.cell? ⟨bb, oo + k * 3, none⟩ = some (.int .i64 ow) := fun z => (Below.cell (hB.trans (Below.mono (NewW.h z) hB.size)) (p := ⟨bb, _, none⟩) hbb).trans hc0
  refine wp_region_new (by kernel_rfl) (by kernel_rfl) ?_
  repeat (go_big_quiet_step (first | (go_at_call 30; exact NewW.same (HAT0.out _ (hB.trans (Below.mono (NewW.h _) hB.size))))))
  refine wpQuiet_nil ?_
  intro w2 hw'
  obtain ⟨hx, hw''⟩ := hw'
  have hb2 := hx.h
  rw [← hw''] at hb2
  clear hw'' hx
  clear f_v f_e
  replace hB := hB.trans (Below.mono hb2 hB.size)
  have hz_w2 : W1.heap.size ≤ w2.heap.size := Below.size hb2
  replace kb_v := Blk.below kb_v hb2 (by first | exact kb_v.lt | (have := kb_v.lt; omega))
  have kc_v := kb_v.cells
  have kf_v := kb_v.frozens
  have hl_v := kb_v.lt
  have hn_v := Nat.ne_of_lt kb_v.lt
  clear hb2
  go_wp2_with fail
  refine (HM.out _ hB).mono ?_
  rintro e w3 ⟨rfl, hb⟩
  replace hB := hB.trans (Below.mono hb hB.size)
  have hz_w3 : w2.heap.size ≤ w3.heap.size := Below.size hb
  replace kb_v := Blk.below kb_v hb (by first | exact kb_v.lt | (have := kb_v.lt; omega))
  have kc_v := kb_v.cells
  have kf_v := kb_v.frozens
  have hl_v := kb_v.lt
  have hn_v := Nat.ne_of_lt kb_v.lt
  clear hb
  go_wp2_with fail
  refine (HV.out _ hB).mono ?_
  rintro e w4 ⟨rfl, hb⟩
  replace hB := hB.trans (Below.mono hb hB.size)
  have hz_w4 : w3.heap.size ≤ w4.heap.size := Below.size hb
  replace kb_v := Blk.below kb_v hb (by first | exact kb_v.lt | (have := kb_v.lt; omega))
  have kc_v := kb_v.cells
  have kf_v := kb_v.frozens
  have hl_v := kb_v.lt
  have hn_v := Nat.ne_of_lt kb_v.lt
  clear hb
  go_wp2_with fail
  refine (HM9.out _ hB).mono ?_
  rintro e w5 ⟨rfl, hb⟩
  replace hB := hB.trans (Below.mono hb hB.size)
  have hz_w5 : w4.heap.size ≤ w5.heap.size := Below.size hb
  replace kb_v := Blk.below kb_v hb (by first | exact kb_v.lt | (have := kb_v.lt; omega))
  have kc_v := kb_v.cells
  have kf_v := kb_v.frozens
  have hl_v := kb_v.lt
  have hn_v := Nat.ne_of_lt kb_v.lt
  clear hb
  go_wp2_with fail
  refine (HD.out _ hB).mono ?_
  rintro e w6 ⟨A6, c6, R6, d6, rfl, hx1, hx2, hb⟩
  have HD6 := Lib.hid (And.intro hx1 hx2)
  clear hx1 hx2
  replace hB := hB.trans (Below.mono hb hB.size)
  have hz_w6 : w5.heap.size ≤ w6.heap.size := Below.size hb
  replace kb_v := Blk.below kb_v hb (by first | exact kb_v.lt | (have := kb_v.lt; omega))
  have kc_v := kb_v.cells
  have kf_v := kb_v.frozens
  have hl_v := kb_v.lt
  have hn_v := Nat.ne_of_lt kb_v.lt
  clear hb
  go_wp2_with fail
  first | refine name_world ?_ | refine name_wp ?_
  intro W7 hW
  replace hB : Below w.heap.size w W7 := by rw [hW]; exact tacT
  have hp_W7 : Below w6.heap.size w6 W7 := by rw [hW]; exact tacT
  have hz_W7 : w6.heap.size ≤ W7.heap.size := by rw [hW]; first | (simp; done) | (simp; omega)
  replace kb_v : Blk W7 (w.heap.size) 47 #[.int .i64 room, .int .i64 start, .slice A l.length c, .int .i64 lv, .int .i64 ra, .int .i64 dr, .int .i64 lo, .slice (some ⟨bb, oo, none⟩) rs.length d] := by rw [hW]; exact blkT
  have hLW7_v := kb_v.lt
  replace kb_d : Blk W7 (w6.heap.size) 47 #[.int .i64 droom, .int .i64 dstart, .slice A6 dl.length c6, .int .i64 dlv, .int .i64 dra, .int .i64 ddr, .int .i64 dlo, .slice R6 drs.length d6] := by rw [hW]; exact blkT
  have hLW7_d := kb_d.lt
  try clear kc_v kf_v
  try clear kc_d kf_d
  clear hW
  have HD7 := Lib.hid (And.intro (RdT.below HD6.out.1 hp_W7) (RdT.below HD6.out.2 hp_W7))
  clear HD6 hp_W7
  refine (HX.out _ hB).mono ?_
  rintro e w8 ⟨A8, c8, R8, d8, rfl, -, -, hb⟩
  have HD8 := Lib.hid (And.intro (RdT.below HD7.out.1 hb) (RdT.below HD7.out.2 hb))
  clear HD7
  replace hB := hB.trans (Below.mono hb hB.size)
  have hz_w8 : W7.heap.size ≤ w8.heap.size := Below.size hb
  replace kb_v := Blk.below kb_v hb (by first | exact kb_v.lt | (have := kb_v.lt; omega))
  have kc_v := kb_v.cells
  have kf_v := kb_v.frozens
  have hl_v := kb_v.lt
  have hn_v := Nat.ne_of_lt kb_v.lt
  replace kb_d := Blk.below kb_d hb (by first | exact kb_d.lt | (have := kb_d.lt; omega))
  have kc_d := kb_d.cells
  have kf_d := kb_d.frozens
  have hl_d := kb_d.lt
  have hn_d := Nat.ne_of_lt kb_d.lt
  clear hb
  go_upto_region 10 with fail
  first | refine name_world ?_ | refine name_wp ?_
  intro W9 hW
  replace hB : Below w.heap.size w W9 := by rw [hW]; exact tacT
  have hp_W9 : Below w8.heap.size w8 W9 := by rw [hW]; exact tacT
  have hz_W9 : w8.heap.size ≤ W9.heap.size := by rw [hW]; first | (simp; done) | (simp; omega)
  replace kb_v : Blk W9 (w.heap.size) 47 #[.int .i64 room, .int .i64 start, .slice A l.length c, .int .i64 lv, .int .i64 ra, .int .i64 dr, .int .i64 lo, .slice (some ⟨bb, oo, none⟩) rs.length d] := by rw [hW]; exact blkT
  have hLW9_v := kb_v.lt
  replace kb_d : Blk W9 (w6.heap.size) 47 #[.int .i64 droom, .int .i64 dstart, .slice A6 dl.length c6, .int .i64 dlv, .int .i64 dra, .int .i64 ddr, .int .i64 dlo, .slice R6 drs.length d6] := by rw [hW]; exact blkT
  have hLW9_d := kb_d.lt
  try clear kc_v kf_v
  try clear kc_d kf_d
  clear hW
  have HD9 := Lib.hid (And.intro (RdT.below HD8.out.1 hp_W9) (RdT.below HD8.out.2 hp_W9))
  clear HD8 hp_W9
  go_cut [107] from 66 to 107 (fun s wx => s = .bool false ∧ Below W9.heap.size W9 wx)
  case first =>
    have kc_v := kb_v.cells
    have kc_d := kb_d.cells
    by_cases g : m ≤ lv
    · have hok : okd = true := by rw [HD2.out]; exact decide_eq_true g
      subst hok
      obtain rfl := HDL.out rfl
      have g9 : decide (m ≤ lv) = true := decide_eq_true g
      go_wp2_with fail
      refine (HDM.out _ _ _ _ _ HD9.out.1 HD9.out.2 (by trivial)).mono ?_
      rintro e w10 ⟨rfl, hb⟩
      have HBX := Lib.hid hb
      have HD10 := Lib.hid (And.intro (RdT.below HD9.out.1 hb) (RdT.below HD9.out.2 hb))
      replace hB := hB.trans (Below.mono hb hB.size)
      have hz_w10 : W9.heap.size ≤ w10.heap.size := Below.size hb
      replace kb_v := Blk.below kb_v hb (by first | exact kb_v.lt | (have := kb_v.lt; omega))
      have kc_v := kb_v.cells
      have kf_v := kb_v.frozens
      have hl_v := kb_v.lt
      have hn_v := Nat.ne_of_lt kb_v.lt
      replace kb_d := Blk.below kb_d hb (by first | exact kb_d.lt | (have := kb_d.lt; omega))
      have kc_d := kb_d.cells
      have kf_d := kb_d.frozens
      have hl_d := kb_d.lt
      have hn_d := Nat.ne_of_lt kb_d.lt
      clear hb
      go_wp2_with fail
      refine (HDV.out _ _ _ _ _ HD10.out.1 HD10.out.2 (by trivial)).mono ?_
      rintro e w11 ⟨rfl, hb⟩
      have HBY : Hid (Below W9.heap.size W9 w11) := HBX.out.trans (hb.mono HBX.out.size)
      clear hb
      go_wp2_with fail
      go_meet
      exact ⟨rfl, HBY.out⟩
    · have hok : okd = false := by rw [HD2.out]; exact decide_eq_false g
      subst hok
      have g9 : decide (m ≤ lv) = false := decide_eq_false g
      go_wp2_with fail
      go_meet
      exact ⟨rfl, Below.refl _ _⟩
  case rest =>
    obtain ⟨rfl, hb⟩ := hcut
    obtain ⟨wA, rfl⟩ : ∃ wA : World, wA = wc := ⟨_, rfl⟩
    replace hB := hB.trans (Below.mono hb hB.size)
    have hz_wA : W9.heap.size ≤ wA.heap.size := Below.size hb
    replace kb_v := Blk.below kb_v hb (by first | exact kb_v.lt | (have := kb_v.lt; omega))
    have kc_v := kb_v.cells
    have kf_v := kb_v.frozens
    have hl_v := kb_v.lt
    have hn_v := Nat.ne_of_lt kb_v.lt
    clear hb
    clear HD9 kb_d HDM HDV HDL HD HX HM9
    go_wp2_with fail
    refine (HAT1.out _ hB).mono ?_
    rintro e w12 ⟨rfl, rfl⟩
    go_wp2_with fail
    refine (HR.out _ hB).mono ?_
    rintro e w13 ⟨A6, c6, R6, d6, rfl, hx1, hx2, hb⟩
    have HR13 := Lib.hid (And.intro hx1 hx2)
    clear hx1 hx2
    replace hB := hB.trans (Below.mono hb hB.size)
    have hz_w13 : wA.heap.size ≤ w13.heap.size := Below.size hb
    replace kb_v := Blk.below kb_v hb (by first | exact kb_v.lt | (have := kb_v.lt; omega))
    have kc_v := kb_v.cells
    have kf_v := kb_v.frozens
    have hl_v := kb_v.lt
    have hn_v := Nat.ne_of_lt kb_v.lt
    clear hb
    go_wp2_with fail
    first | refine name_world ?_ | refine name_wp ?_
    intro W14 hW
    replace hB : Below w.heap.size w W14 := by rw [hW]; exact tacT
    have hp_W14 : Below w13.heap.size w13 W14 := by rw [hW]; exact tacT
    have hz_W14 : w13.heap.size ≤ W14.heap.size := by rw [hW]; first | (simp; done) | (simp; omega)
    replace kb_v : Blk W14 (w.heap.size) 47 #[.int .i64 room, .int .i64 start, .slice A l.length c, .int .i64 lv, .int .i64 ra, .int .i64 dr, .int .i64 lo, .slice (some ⟨bb, oo, none⟩) rs.length d] := by rw [hW]; exact blkT
    have hLW14_v := kb_v.lt
    replace kb_r : Blk W14 (w13.heap.size) 47 #[.int .i64 rroom, .int .i64 rstart, .slice A6 rl.length c6, .int .i64 rlv, .int .i64 (ra + a1), .int .i64 rdr, .int .i64 rlo, .slice R6 rrs.length d6] := by rw [hW]; exact blkT
    have hLW14_r := kb_r.lt
    try clear kc_v kf_v
    try clear kc_r kf_r
    clear hW
    have HR14 := Lib.hid (And.intro (RdT.below HR13.out.1 hp_W14) (RdT.below HR13.out.2 hp_W14))
    clear HR13 hp_W14
    refine (HRM.out _ _ _ _ _ HR14.out.1 HR14.out.2).mono ?_
    rintro e w15 ⟨rfl, hb⟩
    clear HR14
    replace hB := hB.trans (Below.mono hb hB.size)
    have hz_w15 : W14.heap.size ≤ w15.heap.size := Below.size hb
    replace kb_v := Blk.below kb_v hb (by first | exact kb_v.lt | (have := kb_v.lt; omega))
    have kc_v := kb_v.cells
    have kf_v := kb_v.frozens
    have hl_v := kb_v.lt
    have hn_v := Nat.ne_of_lt kb_v.lt
    clear hb
    go_wp2_with fail
    refine (HL.out _ hB).mono ?_
    rintro e w16 ⟨A7, c7, R7, d7, rfl, -, -, hb⟩
    replace hB := hB.trans (Below.mono hb hB.size)
    have hz_w16 : w15.heap.size ≤ w16.heap.size := Below.size hb
    replace kb_v := Blk.below kb_v hb (by first | exact kb_v.lt | (have := kb_v.lt; omega))
    have kc_v := kb_v.cells
    have kf_v := kb_v.frozens
    have hl_v := kb_v.lt
    have hn_v := Nat.ne_of_lt kb_v.lt
    clear hb
    go_wp2_with fail
    first | refine name_world ?_ | refine name_wp ?_
    intro W17 hW
    replace hB : Below w.heap.size w W17 := by rw [hW]; exact tacT
    have hz_W17 : w16.heap.size ≤ W17.heap.size := by rw [hW]; first | (simp; done) | (simp; omega)
    replace kb_v : Blk W17 (w.heap.size) 47 #[.int .i64 room, .int .i64 start, .slice A l.length c, .int .i64 lv, .int .i64 ra, .int .i64 dr, .int .i64 lo, .slice (some ⟨bb, oo, none⟩) rs.length d] := by rw [hW]; exact blkT
    have hLW17_v := kb_v.lt
    try clear kc_v kf_v
    clear hW
    refine (HS.out _ hB).mono ?_
    rintro e w18 ⟨A8, c8, R8, d8, rfl, hx1, hx2, hb⟩
    have HS18 := Lib.hid (And.intro hx1 hx2)
    clear hx1 hx2
    replace hB := hB.trans (Below.mono hb hB.size)
    have hz_w18 : W17.heap.size ≤ w18.heap.size := Below.size hb
    replace kb_v := Blk.below kb_v hb (by first | exact kb_v.lt | (have := kb_v.lt; omega))
    have kc_v := kb_v.cells
    have kf_v := kb_v.frozens
    have hl_v := kb_v.lt
    have hn_v := Nat.ne_of_lt kb_v.lt
    clear hb
    go_upto_region 20 with fail
    first | refine name_world ?_ | refine name_wp ?_
    intro W19 hW
    replace hB : Below w.heap.size w W19 := by rw [hW]; exact tacT
    have hp_W19 : Below w18.heap.size w18 W19 := by rw [hW]; exact tacT
    have hz_W19 : w18.heap.size ≤ W19.heap.size := by rw [hW]; first | (simp; done) | (simp; omega)
    replace kb_v : Blk W19 (w.heap.size) 47 #[.int .i64 room, .int .i64 start, .slice A l.length c, .int .i64 lv, .int .i64 ra, .int .i64 dr, .int .i64 lo, .slice (some ⟨bb, oo, none⟩) rs.length d] := by rw [hW]; exact blkT
    have hLW19_v := kb_v.lt
    replace kb_s : Blk W19 (w18.heap.size) 47 #[.int .i64 sroom, .int .i64 sstart, .slice A8 sl.length c8, .int .i64 slv, .int .i64 sra, .int .i64 sdr, .int .i64 slo, .slice R8 srs.length d8] := by rw [hW]; exact blkT
    have hLW19_s := kb_s.lt
    try clear kc_v kf_v
    try clear kc_s kf_s
    clear hW
    have HS19 := Lib.hid (And.intro (RdT.below HS18.out.1 hp_W19) (RdT.below HS18.out.2 hp_W19))
    clear HS18 hp_W19
    go_cut [195] from 171 to 195 (fun s wx => s = .bool false ∧ Below W19.heap.size W19 wx)
    case first =>
      have kc_v := kb_v.cells
      have kc_s := kb_s.cells
      cases oks
      · go_wp2_with fail
        go_meet
        exact ⟨rfl, Below.refl _ _⟩
      · obtain ⟨hs1, rfl⟩ := HSL.out rfl
        have hsz : ((srs.length : Int) != (rs.length : Int) + 1) = false := bne_eq_false_iff_eq.2 (by omega)
        have hsz2 : (srs.length : Int) = (rs.length : Int) + 1 := by omega
        have HZ := Lib.hid hsz2
        clear hs1 hsz2
        go_wp2_with fail
        refine (HSV.out _ _ _ _ _ HS19.out.1 HS19.out.2 (by trivial)).mono ?_
        rintro e w20 ⟨rfl, hb⟩
        have HBX := Lib.hid hb
        replace hB := hB.trans (Below.mono hb hB.size)
        have hz_w20 : W19.heap.size ≤ w20.heap.size := Below.size hb
        replace kb_v := Blk.below kb_v hb (by first | exact kb_v.lt | (have := kb_v.lt; omega))
        have kc_v := kb_v.cells
        have kf_v := kb_v.frozens
        have hl_v := kb_v.lt
        have hn_v := Nat.ne_of_lt kb_v.lt
        replace kb_s := Blk.below kb_s hb (by first | exact kb_s.lt | (have := kb_s.lt; omega))
        have kc_s := kb_s.cells
        have kf_s := kb_s.frozens
        have hl_s := kb_s.lt
        have hn_s := Nat.ne_of_lt kb_s.lt
        clear hb
        go_wp2_with fail
        go_meet
        exact ⟨rfl, HBX.out⟩
    case rest =>
      obtain ⟨rfl, hb⟩ := hcut
      obtain ⟨wB, rfl⟩ : ∃ wB : World, wB = wc := ⟨_, rfl⟩
      replace hB := hB.trans (Below.mono hb hB.size)
      have hz_wB : W19.heap.size ≤ wB.heap.size := Below.size hb
      replace kb_v := Blk.below kb_v hb (by first | exact kb_v.lt | (have := kb_v.lt; omega))
      have kc_v := kb_v.cells
      have kf_v := kb_v.frozens
      have hl_v := kb_v.lt
      have hn_v := Nat.ne_of_lt kb_v.lt
      clear hb
      clear HS19 kb_s HSV HSL HS HR HL
      go_wp2_with fail
      first | refine name_world ?_ | refine name_wp ?_
      intro W20 hW
      replace hB : Below w.heap.size w W20 := by rw [hW]; exact tacT
      have hz_W20 : wB.heap.size ≤ W20.heap.size := by rw [hW]; first | (simp; done) | (simp; omega)
      replace kb_v : Blk W20 (w.heap.size) 47 #[.int .i64 room, .int .i64 start, .slice A l.length c, .int .i64 lv, .int .i64 ra, .int .i64 dr, .int .i64 lo, .slice (some ⟨bb, oo, none⟩) rs.length d] := by rw [hW]; exact blkT
      have hLW20_v := kb_v.lt
      replace kb_u : Blk W20 (wB.heap.size) 3 #[.int .i64 601, .int .i64 602] := by rw [hW]; exact blkT
      have hLW20_u := kb_u.lt
      try clear kc_v kf_v
      try clear kc_u kf_u
      clear hW
      refine (HP.out _ (some ⟨wB.heap.size, 0, none⟩) 2 hB (rd_two kb_u)).mono ?_
      rintro e w21 ⟨A9, c9, R9, d9, rfl, hx1, hx2, hb⟩
      have HH21 := Lib.hid (And.intro hx1 hx2)
      clear hx1 hx2
      replace hB := hB.trans (Below.mono hb hB.size)
      have hz_w21 : W20.heap.size ≤ w21.heap.size := Below.size hb
      replace kb_v := Blk.below kb_v hb (by first | exact kb_v.lt | (have := kb_v.lt; omega))
      have kc_v := kb_v.cells
      have kf_v := kb_v.frozens
      have hl_v := kb_v.lt
      have hn_v := Nat.ne_of_lt kb_v.lt
      clear hb
      go_upto_region 23 with fail
      first | refine name_world ?_ | refine name_wp ?_
      intro W22 hW
      replace hB : Below w.heap.size w W22 := by rw [hW]; exact tacT
      have hp_W22 : Below w21.heap.size w21 W22 := by rw [hW]; exact tacT
      have hz_W22 : w21.heap.size ≤ W22.heap.size := by rw [hW]; first | (simp; done) | (simp; omega)
      replace kb_v : Blk W22 (w.heap.size) 47 #[.int .i64 room, .int .i64 start, .slice A l.length c, .int .i64 lv, .int .i64 ra, .int .i64 dr, .int .i64 lo, .slice (some ⟨bb, oo, none⟩) rs.length d] := by rw [hW]; exact blkT
      have hLW22_v := kb_v.lt
      replace kb_h : Blk W22 (w21.heap.size) 47 #[.int .i64 hroom, .int .i64 hstart, .slice A9 hl.length c9, .int .i64 hlv, .int .i64 hra, .int .i64 hdr, .int .i64 hlo, .slice R9 hrs.length d9] := by rw [hW]; exact blkT
      have hLW22_h := kb_h.lt
      try clear kc_v kf_v
      try clear kc_h kf_h
      clear hW
      have HH22 := Lib.hid (And.intro (RdT.below HH21.out.1 hp_W22) (RdT.below HH21.out.2 hp_W22))
      clear HH21 hp_W22
      go_cut [224] from 203 to 224 (fun s wx => s = .bool false ∧ Below W22.heap.size W22 wx)
      case first =>
        have kc_v := kb_v.cells
        have kc_h := kb_h.cells
        cases okh
        · go_wp2_with fail
          go_meet
          exact ⟨rfl, Below.refl _ _⟩
        · have hs1 := HPL.out rfl
          have hsz : ((hrs.length : Int) != (rs.length : Int) + 1) = false := bne_eq_false_iff_eq.2 (by omega)
          clear hs1
          go_wp2_with fail
          refine (HHV.out _ _ _ _ _ HH22.out.1 HH22.out.2 (by trivial)).mono ?_
          rintro e w23 ⟨rfl, hb⟩
          have HBX := Lib.hid hb
          have HH23 := Lib.hid (And.intro (RdT.below HH22.out.1 hb) (RdT.below HH22.out.2 hb))
          replace hB := hB.trans (Below.mono hb hB.size)
          have hz_w23 : W22.heap.size ≤ w23.heap.size := Below.size hb
          replace kb_v := Blk.below kb_v hb (by first | exact kb_v.lt | (have := kb_v.lt; omega))
          have kc_v := kb_v.cells
          have kf_v := kb_v.frozens
          have hl_v := kb_v.lt
          have hn_v := Nat.ne_of_lt kb_v.lt
          replace kb_h := Blk.below kb_h hb (by first | exact kb_h.lt | (have := kb_h.lt; omega))
          have kc_h := kb_h.cells
          have kf_h := kb_h.frozens
          have hl_h := kb_h.lt
          have hn_h := Nat.ne_of_lt kb_h.lt
          clear hb
          go_wp2_with fail
          refine (HHM.out _ _ _ _ _ HH23.out.1 HH23.out.2 (by trivial)).mono ?_
          rintro e w24 ⟨rfl, hb⟩
          have HBY : Hid (Below W22.heap.size W22 w24) := HBX.out.trans (hb.mono HBX.out.size)
          clear hb
          go_wp2_with fail
          go_meet
          exact ⟨rfl, HBY.out⟩
      case rest =>
        obtain ⟨rfl, hb⟩ := hcut
        obtain ⟨wC, rfl⟩ : ∃ wC : World, wC = wc := ⟨_, rfl⟩
        replace hB := hB.trans (Below.mono hb hB.size)
        have hz_wC : W22.heap.size ≤ wC.heap.size := Below.size hb
        replace kb_v := Blk.below kb_v hb (by first | exact kb_v.lt | (have := kb_v.lt; omega))
        have kc_v := kb_v.cells
        have kf_v := kb_v.frozens
        have hl_v := kb_v.lt
        have hn_v := Nat.ne_of_lt kb_v.lt
        clear hb
        clear HH22 kb_h
        go_wp2_with fail
        refine (HO.out _).mono ?_
        rintro e w25 ⟨A10, c10, R10, d10, rfl, hx1, hx2, hb⟩
        have HN25 := Lib.hid (And.intro hx1 hx2)
        clear hx1 hx2
        replace hB := hB.trans (Below.mono hb hB.size)
        have hz_w25 : wC.heap.size ≤ w25.heap.size := Below.size hb
        clear hb
        go_wp2_with fail
        first | refine name_world ?_ | refine name_wp ?_
        intro W26 hW
        replace hB : Below w.heap.size w W26 := by rw [hW]; exact tacT
        have hp_W26 : Below w25.heap.size w25 W26 := by rw [hW]; exact tacT
        have hz_W26 : w25.heap.size ≤ W26.heap.size := by rw [hW]; first | (simp; done) | (simp; omega)
        replace kb_n : Blk W26 (w25.heap.size) 47 #[.int .i64 80, .int .i64 30, .slice A10 0 c10, .int .i64 30, .int .i64 0, .int .i64 0, .int .i64 0, .slice R10 1 d10] := by rw [hW]; exact blkT
        have hLW26_n := kb_n.lt
        try clear kc_n kf_n
        clear hW
        have HN26 := Lib.hid (And.intro (RdT.below HN25.out.1 hp_W26) (RdT.below HN25.out.2 hp_W26))
        clear HN25 hp_W26
        refine (HON.out _ _ _ _ _ HN26.out.1 HN26.out.2).mono ?_
        rintro e w27 ⟨rfl, hb⟩
        replace hB := hB.trans (Below.mono hb hB.size)
        have hz_w27 : W26.heap.size ≤ w27.heap.size := Below.size hb
        replace kb_n := Blk.below kb_n hb (by first | exact kb_n.lt | (have := kb_n.lt; omega))
        have kc_n := kb_n.cells
        have kf_n := kb_n.frozens
        have hl_n := kb_n.lt
        have hn_n := Nat.ne_of_lt kb_n.lt
        clear hb
        go_wp2_with fail
        go_ret
        exact ⟨rfl, HB0.out.trans (hB.mono HB0.out.size)⟩
set_option maxRecDepth 100000 in
theorem lifted_FnVillages (os : Os) (started : os.Started) (H : Type) (enc : TypeId × Value → H) :
    ReturnsInHanded {} Try.checked os 6 .any (Rows.fnVillagesSpec.pre6 enc Try.prog Try.f6 Rows.fnVillagesRow.domain false) (Rows.fnVillagesSpec.post enc Try.prog Try.f6 false true false false) := by
  refine returnsInHanded_of_change (C := Try.checked) own_knob started (by kernel_rfl) Try.func6
    (ChangeSpec.witness6 (enc := enc) (C := Try.checked) false ⟨#[], #[.slice none 0 0], []⟩ 8 (by kernel_rfl) (by kernel_rfl) (by kernel_rfl) (by kernel_rfl)) ?_
  intro W base args ds gs before hval0 hW hcnd _
  have hval : ∀ (j : Nat) t v, Try.f6.params[j]? = some t → args[j]? = some v → Value.okWide Try.prog W .any base t v := hval0
  have hW' := hW
  obtain ⟨p, q, hA0, hV, rfl, hfz, hnd⟩ := hW
  have hA : DataW.TrodAll enc Try.prog W 0 (fun _ => true) true Try.f6.params.toList args.toList ds p := hA0
  rw [Try.params6] at hA hval
  obtain ⟨v0, vs0, d0, ds0, p0, q0, hargs, rfl, rfl, h0, r0⟩ := trodAll_cons hA
  obtain ⟨rfl, rfl, rfl⟩ := trodAll_nil r0
  obtain rfl : args = #[v0] := by cases args; simp_all
  obtain ⟨rfl, rfl⟩ := trodVars_none hV
  obtain ⟨A0, c0, l0, rfl, hr0⟩ := arg_bytes (hval 0 22 v0 rfl rfl) h0
  have lt0 : ∀ x ∈ p0, x.block < W.heap.size := by obtain ⟨m, hm⟩ := h0; exact DataW.trod_lt m _ _ _ hm
  clear hA0 hval0
  refine (walk_FnVillages W A0 c0 l0 hr0).mono fun e W' ⟨he, bel⟩ => ?_
  subst he
  exact ⟨_, rfl, _, _, _, [], _, [], hW', trodAll_mk1 (shut_bool Try.underlying4 _), (trodAll_cons_mk (Below.trod laid_out (by kernel_rfl) (of_decide_eq_true (by kernel_rfl)) h0 bel lt0) trodAll_mk0), rfl, bel.frame _, fun h => by cases h⟩

theorem fnVillages_holds : Rows.FnVillagesSaid :=
  OpenClaim.holds_of_wide 6 Try.f6 rfl rfl rfl rfl rfl rfl rfl ⟨rfl, rfl, rfl, rfl, rfl⟩ rfl rfl rfl rfl rfl (by kernel_rfl) Try.func6 (by kernel_rfl)
    (of_decide_eq_true (by kernel_rfl)) (by unfold Func.isWrapper; rw [if_neg (by decide +kernel)]; exact ⟨rfl, rfl⟩)
    (fun os started H enc _ => lifted_FnVillages os started H enc)
end Go.Proofs.Ytljidaniidfdoaa
