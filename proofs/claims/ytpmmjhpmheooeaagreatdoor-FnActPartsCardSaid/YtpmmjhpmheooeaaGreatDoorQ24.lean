/- Texts of the proof, joined: Sell. -/
import Derived.Test.YtpmmjhpmheooeaaGreatDoorQ17
namespace Go.Proofs.YtpmmjhpmheooeaaGreatDoor
set_option linter.unusedSimpArgs false
set_option linter.unusedVariables false
section
open Go.RowKit
set_option maxRecDepth 20000
set_option maxHeartbeats 25600000 in
theorem SellShare_y (A : Option Addr) (c : Nat) (l : List T3) (f t a b : Int) (w : World) (h : RdT w w.heap.size A c l) (hs : l.length ≤ 1048576) (g1 : rightsOk l = true) (k : Nat) (g2 : rightAt l f = (k : Int)) (g3 : f ≠ t) (g4 : inB t 1 999 = true) (g5 : fracOk a b = true) (g6 : a ≤ b) (x : T3) (gx : l[k]? = some x) (gf : x.x = f) (u1 u2 : Int) (hm : mulF x.y x.z a b = (u1, u2, true)) (r1 r2 : Int) (hr : mulF x.y x.z (b - a) b = (r1, r2, true)) (gs : shareOf l f = (x.y, x.z)) :
  Calls Tryz.prog 102 #[.slice A l.length c, .int .i64 f, .int .i64 t, .agg #[.int .i64 a, .int .i64 b]] w (SellRet (sellF l f t a b) w) := by
 have hB := Below.refl w.heap.size w
 have H1 := Lib.hid (fun (W : World) (hb : Below w.heap.size w W) => copyRights_any A c l W (h.below hb) hs)
 have H2 := Lib.hid (fun (W : World) (hb : Below w.heap.size w W) => rightOf_any A c l f W (h.below hb))
 have H3 := Lib.hid (fun (W : World) (hb : Below w.heap.size w W) => RightsOk_any A c l W (h.below hb))
 have HF := Lib.hid (fun (W : World) => FractionOk_any a b W)
 have hG : sellG l f t a b = true := sellG_iff.2 ⟨g1, hasO_iff.2 (by omega), g3, g4, g5, g6⟩
 obtain ⟨hl12, hl1, hall⟩ := rights_facts g1
 obtain ⟨fx, y1, x1, x2⟩ := hall x (List.mem_of_getElem? gx)
 have hup := rights_up g1
 have HM : Hid (∀ W, Calls Tryz.prog 128 #[.agg #[.int .i64 x.y, .int .i64 x.z], .agg #[.int .i64 a, .int .i64 b]] W fun e w' => e = frRet (u1, u2, true) ∧ Below W.heap.size W w') := fun W => by rw [← hm]; exact TimesFraction_any _ _ _ _ W
 have hg6 : ¬ b < a := by omega
 have hg6' : decide (b < a) = false := by simp [hg6]
 have hpl := (List.getElem?_eq_some_iff.1 gx).1
 obtain ⟨bb, oo, x', hA9, hbb, hx', e0, e1, e2⟩ := h.at_ hpl
 subst hA9
 rw [gx] at hx'
 obtain rfl : x = x' := Option.some.inj hx'
 clear hx'
 have hk0 : (0 : Int) ≤ (k : Int) := by omega
 have hk1 : (k : Int) < (l.length : Int) := by omega
 have hlen : (l.length : Int) ≤ (c : Int) := by have := h.2.1; omega
 have hc63 : c ≤ 9223372036854775807 := h.2.2.1
 have hless : lessF x.y x.z u1 u2 = (r1, r2, true) := by rw [less_mul fx g5 g6 hm, hr]
 have HL : Hid (∀ W, Calls Tryz.prog 129 #[.agg #[.int .i64 x.y, .int .i64 x.z], .agg #[.int .i64 u1, .int .i64 u2]] W fun e w' => e = frRet (r1, r2, true) ∧ Below W.heap.size W w') := fun W => by rw [← hless]; exact lessFraction_any _ _ _ _ W
 have HEND : Hid (∀ (r : List T3) (ok : Bool), AddIs (cutS l f r1 r2) t u1 u2 r ok → sellF l f t a b = if ok && rightsOk r then (r, true) else (l, false)) := fun r ok h => sell_end hG gs hm hr h
 obtain ⟨q, hq⟩ : ∃ q, q = cutS l f r1 r2 := ⟨_, rfl⟩
 have hqu : upO 0 q := by rw [hq]; exact upO_cut l f r1 r2 0 hup
 have hql : q.length ≤ 12 := by rw [hq]; have := cutS_len l f r1 r2; omega
 have HCUT := Lib.hid (hq.trans (cutS_ix g2 r1 r2))
 rw [← hq] at HEND
 obtain ⟨R, hR⟩ : ∃ R, R = sellF l f t a b := ⟨_, rfl⟩
 rw [← hR] at HEND ⊢
 have HAD : Hid (∀ (W : World) (A c base n), q.length = n → W.ownsRow base 69 3 (.slice A n c) n (t3s q) → base ≤ W.heap.size → Calls Tryz.prog 131 #[.slice A n c, .int .i64 t, .agg #[.int .i64 u1, .int .i64 u2]] W (AddRet base q t u1 u2 A c W)) := fun W A c base n hn h hb => by subst hn; exact addShare_any A c base q t u1 u2 W h hqu (by omega) hb
 have HDE : Hid (∀ (W : World) (A c base), W.ownsRow base 69 3 (.slice A l.length c) l.length (t3s (l.set k ⟨x.x, r1, r2⟩)) → Calls Tryz.prog 130 #[.slice A l.length c, .int .i64 k, .int .i64 ((k : Int) + 1)] W fun e w' => e = .returned (.slice A (l.length - 1) c) ∧ w'.ownsRow base 69 3 (.slice A (l.length - 1) c) (l.length - 1) (t3s (l.take k ++ l.drop (k + 1))) ∧ W.grownBy w' (Value.slice A l.length c).ownBlock) := fun W A c base h => by
  have h9 := DeleteR_any A c base (l.set k ⟨x.x, r1, r2⟩) k W (by rw [List.length_set]; exact h) (by rw [List.length_set]; exact hpl)
  rw [List.length_set] at h9
  have e : (l.set k ⟨x.x, r1, r2⟩).take k ++ (l.set k ⟨x.x, r1, r2⟩).drop (k + 1) = l.take k ++ l.drop (k + 1) := by
   rw [List.take_set_of_le (Nat.le_refl k), List.drop_set_of_lt (by omega)]
  rwa [e] at h9
 have HX := Lib.hid gx
 have HXF := Lib.hid gf
 have H3q := Lib.hid (fun (W : World) (A : Option Addr) (c : Nat) (r : List T3) (h : RdT W W.heap.size A c r) => RightsOk_any A c r W h)
 clear hq hqu hR gf
 rw [g1] at H3
 rw [g2] at H2
 have hk9 : ¬ (k : Int) < 0 := by omega
 have hk8 : decide ((k : Int) < 0) = false := by simp
 clear h g2
 have hft : (f == t) = false := by simp [g3]
 have HIN := Lib.hid g4
 rw [g5] at HF
 clear hG hall hup hm hr hless gs gx g1 g3 g4 g5 g6
 go_enter Tryz.func102, Tryz.ntmps102
 go_wp2_with fail
 first | refine name_world ?_ | refine name_wp ?_
 intro W1 hW
 replace hB : Below w.heap.size w W1 := by rw [hW]; exact tacT
 have hz_W1 : w.heap.size ≤ W1.heap.size := by rw [hW]; exact sT
 replace kb_p : Blk W1 (w.heap.size) 67 #[.int .i64 a, .int .i64 b] := by rw [hW]; exact blkT
 have hLW1_p := kb_p.lt
 try clear kc_p kf_p
 clear hW
 refine (H1.out _ hB).mono ?_
 rintro e w1 ⟨A1, c1, rfl, ho1, hb⟩
 have hr_s := Row2.born ho1
 clear ho1
 replace hB := hB.trans (Below.mono hb hB.size)
 have hz_w1 : W1.heap.size ≤ w1.heap.size := Below.size hb
 replace kb_p := kb_p.mv hb; obtain ⟨kb_p, kc_p, kf_p, hl_p, hn_p⟩ := kb_p
 clear hb
 go_wp2_with fail
 refine (H2.out _ hB).mono ?_
 rintro e w2 ⟨rfl, hb⟩
 replace hB := hB.trans (Below.mono hb hB.size)
 have hz_w2 : w1.heap.size ≤ w2.heap.size := Below.size hb
 replace kb_p := kb_p.mv hb; obtain ⟨kb_p, kc_p, kf_p, hl_p, hn_p⟩ := kb_p
 replace hr_s := Row2.below hr_s hb (by omega)
 clear hb
 go_wp2_with fail
 refine (H3.out _ hB).mono ?_
 rintro e w3 ⟨rfl, hb⟩
 replace hB := hB.trans (Below.mono hb hB.size)
 have hz_w3 : w2.heap.size ≤ w3.heap.size := Below.size hb
 replace kb_p := kb_p.mv hb; obtain ⟨kb_p, kc_p, kf_p, hl_p, hn_p⟩ := kb_p
 replace hr_s := Row2.below hr_s hb (by omega)
 clear hb
 go_wp2_with fail
 refine (within_any _ _ _ _).mono ?_
 rw [HIN.out]
 rintro e w' ⟨rfl, rfl⟩
 go_wp2_with fail
 refine (HF.out _).mono ?_
 rintro e w4 ⟨rfl, hb⟩
 replace hB := hB.trans (Below.mono hb hB.size)
 have hz_w4 : w3.heap.size ≤ w4.heap.size := Below.size hb
 replace kb_p := kb_p.mv hb; obtain ⟨kb_p, kc_p, kf_p, hl_p, hn_p⟩ := kb_p
 replace hr_s := Row2.below hr_s hb (by omega)
 clear hb
 go_wp2_with fail
 have f1 : w4.cell? ⟨bb, oo + k * 3 + 1, none⟩ = some (.int .i64 x.y) := (hB.cell (p := ⟨bb, _, none⟩) hbb).trans e1
 have f2 : w4.cell? ⟨bb, oo + k * 3 + 2, none⟩ = some (.int .i64 x.z) := (hB.cell (p := ⟨bb, _, none⟩) hbb).trans e2
 have hlb : bb < w4.heap.size := by omega
 have hlp := hl_p
 go_region_held3 (fun w' => w'.cell? ⟨w.heap.size, 0, none⟩ = some (.int .i64 a) ∧ w'.cell? ⟨w.heap.size, 1, none⟩ = some (.int .i64 b) ∧ w'.cell? ⟨bb, oo + k * 3 + 1, none⟩ = some (.int .i64 x.y) ∧ w'.cell? ⟨bb, oo + k * 3 + 2, none⟩ = some (.int .i64 x.z)) (first | (with_reducible exact ⟨kc_p 0, kc_p 1, f1, f2⟩) | (refine ⟨?_, ?_, ?_, ?_⟩ <;> simp [go_sem, kc_p 0, kc_p 1, f1, f2, hlb, hlp]; done) | (with_reducible exact ⟨y5_0, y5_1, y5_2, y5_3⟩) | (refine ⟨?_, ?_, ?_, ?_⟩ <;> simp [go_sem, y5_0, y5_1, y5_2, y5_3, hlb, hlp, n5_0, l5_0, n5_1, l5_1, n5_2, l5_2, n5_3, l5_3]; done) | exact ⟨kc_p 0, kc_p 1, f1, f2⟩)
  (((go_at_call 128; refine (HM.out _).mono ?_; rintro e w5 ⟨rfl, hb5⟩; unfold frRet; have hB5 : Below w.heap.size w w5 := (by exact tacT); have hz5 : w4.heap.size ≤ w5.heap.size := (by have hzz := Below.size hb5; first | omega | (simp at hzz; omega)); have l5_0 : w.heap.size < w5.heap.size := (by omega); have n5_0 := Nat.ne_of_lt l5_0; have y5_0 : w5.cell? ⟨w.heap.size, 0, none⟩ = some (.int .i64 a) := (Below.cell hb5 (p := ⟨w.heap.size, 0, none⟩) (by first | (simp; done) | (simp; omega) | omega)).trans (by first | exact kc_p 0 | (simp [go_sem, kc_p 0, hlb, hlp]; done)); have l5_1 : w.heap.size < w5.heap.size := (by omega); have n5_1 := Nat.ne_of_lt l5_1; have y5_1 : w5.cell? ⟨w.heap.size, 1, none⟩ = some (.int .i64 b) := (Below.cell hb5 (p := ⟨w.heap.size, 1, none⟩) (by first | (simp; done) | (simp; omega) | omega)).trans (by first | exact kc_p 1 | (simp [go_sem, kc_p 1, hlb, hlp]; done)); have l5_2 : bb < w5.heap.size := (by omega); have n5_2 := Nat.ne_of_lt l5_2; have y5_2 : w5.cell? ⟨bb, oo + k * 3 + 1, none⟩ = some (.int .i64 x.y) := (Below.cell hb5 (p := ⟨bb, oo + k * 3 + 1, none⟩) (by first | (simp; done) | (simp; omega) | omega)).trans (by first | exact f1 | (simp [go_sem, f1, hlb, hlp]; done)); have l5_3 : bb < w5.heap.size := (by omega); have n5_3 := Nat.ne_of_lt l5_3; have y5_3 : w5.cell? ⟨bb, oo + k * 3 + 2, none⟩ = some (.int .i64 x.z) := (Below.cell hb5 (p := ⟨bb, oo + k * 3 + 2, none⟩) (by first | (simp; done) | (simp; omega) | omega)).trans (by first | exact f2 | (simp [go_sem, f2, hlb, hlp]; done)); have kb5_p : Blk w5 (w.heap.size) 67 #[.int .i64 a, .int .i64 b] := Blk.below (by exact blkT) hb5 (by first | (simp; done) | (simp; omega) | omega); have kc5_p := kb5_p.cells; have kf5_p := kb5_p.frozens; have hl5_p := kb5_p.lt; have hn5_p := Nat.ne_of_lt hl5_p; try (have kb9 : Blk w5 w4.heap.size 67 #[.int .i64 0, .int .i64 0] := Blk.below (by exact blkT) hb5 (by exact sT); have kc9 := kb9.cells; have kf9 := kb9.frozens; have hl9 := kb9.lt; have hn9 := Nat.ne_of_lt hl9; have m0 : w.heap.size ≠ w4.heap.size := (by omega); have k0 : w4.heap.size ≠ w.heap.size := (by omega); have m1 : bb ≠ w4.heap.size := (by omega); have k1 : w4.heap.size ≠ bb := (by omega)))))
 ·have hr_s5 : Row2 w5 W1.heap.size w1.heap.size 69 3 A1 l.length c1 (t3s l) := Row2.below (by exact rowT) hb5 (by exact oT)
  go_upto_region 6 with fail
  first | refine name_world ?_ | refine name_wp ?_
  intro W5 hW
  replace hB : Below w.heap.size w W5 := by rw [hW]; exact tacT
  have hz_W5 : w5.heap.size ≤ W5.heap.size := by rw [hW]; exact sT
  replace kb_m : Blk W5 (w5.heap.size) 67 #[.int .i64 u1, .int .i64 u2] := by rw [hW]; exact blkT
  have hLW5_m := kb_m.lt
  replace hr_s : Row2 W5 (W1.heap.size) (w1.heap.size) 69 3 A1 (l.length) c1 (t3s l) := by rw [hW]; exact rowT
  try clear kc_m kf_m
  clear hW
  clear hr_s5 kb5_p kc5_p kf5_p hl5_p hn5_p
  have kc_m := kb_m.cells
  have kf_m := kb_m.frozens
  have hl_m := kb_m.lt
  have hn_m := Nat.ne_of_lt kb_m.lt
  go_wp2_with fail
  have f1' : W5.cell? ⟨bb, oo + k * 3 + 1, none⟩ = some (.int .i64 x.y) := (hB.cell (p := ⟨bb, _, none⟩) hbb).trans e1
  have f2' : W5.cell? ⟨bb, oo + k * 3 + 2, none⟩ = some (.int .i64 x.z) := (hB.cell (p := ⟨bb, _, none⟩) hbb).trans e2
  have hlb' : bb < W5.heap.size := by omega
  go_region_held3 (fun w' => w'.cell? ⟨w5.heap.size, 0, none⟩ = some (.int .i64 u1) ∧ w'.cell? ⟨w5.heap.size, 1, none⟩ = some (.int .i64 u2) ∧ w'.cell? ⟨bb, oo + k * 3 + 1, none⟩ = some (.int .i64 x.y) ∧ w'.cell? ⟨bb, oo + k * 3 + 2, none⟩ = some (.int .i64 x.z)) (first | (with_reducible exact ⟨kc_m 0, kc_m 1, f1', f2'⟩) | (refine ⟨?_, ?_, ?_, ?_⟩ <;> simp [go_sem, kc_m 0, kc_m 1, f1', f2', hlb', hl_m]; done) | (with_reducible exact ⟨y7_0, y7_1, y7_2, y7_3⟩) | (refine ⟨?_, ?_, ?_, ?_⟩ <;> simp [go_sem, y7_0, y7_1, y7_2, y7_3, hlb', hl_m, n7_0, l7_0, n7_1, l7_1, n7_2, l7_2, n7_3, l7_3]; done) | exact ⟨kc_m 0, kc_m 1, f1', f2'⟩)
   (((go_at_call 129; refine (HL.out _).mono ?_; rintro e w7 ⟨rfl, hb7⟩; unfold frRet; have hB7 : Below w.heap.size w w7 := (by exact tacT); have hz7 : W5.heap.size ≤ w7.heap.size := (by have hzz := Below.size hb7; first | omega | (simp at hzz; omega)); have l7_0 : w5.heap.size < w7.heap.size := (by omega); have n7_0 := Nat.ne_of_lt l7_0; have y7_0 : w7.cell? ⟨w5.heap.size, 0, none⟩ = some (.int .i64 u1) := (Below.cell hb7 (p := ⟨w5.heap.size, 0, none⟩) (by first | (simp; done) | (simp; omega) | omega)).trans (by first | exact kc_m 0 | (simp [go_sem, kc_m 0, hlb', hl_m]; done)); have l7_1 : w5.heap.size < w7.heap.size := (by omega); have n7_1 := Nat.ne_of_lt l7_1; have y7_1 : w7.cell? ⟨w5.heap.size, 1, none⟩ = some (.int .i64 u2) := (Below.cell hb7 (p := ⟨w5.heap.size, 1, none⟩) (by first | (simp; done) | (simp; omega) | omega)).trans (by first | exact kc_m 1 | (simp [go_sem, kc_m 1, hlb', hl_m]; done)); have l7_2 : bb < w7.heap.size := (by omega); have n7_2 := Nat.ne_of_lt l7_2; have y7_2 : w7.cell? ⟨bb, oo + k * 3 + 1, none⟩ = some (.int .i64 x.y) := (Below.cell hb7 (p := ⟨bb, oo + k * 3 + 1, none⟩) (by first | (simp; done) | (simp; omega) | omega)).trans (by first | exact f1' | (simp [go_sem, f1', hlb', hl_m]; done)); have l7_3 : bb < w7.heap.size := (by omega); have n7_3 := Nat.ne_of_lt l7_3; have y7_3 : w7.cell? ⟨bb, oo + k * 3 + 2, none⟩ = some (.int .i64 x.z) := (Below.cell hb7 (p := ⟨bb, oo + k * 3 + 2, none⟩) (by first | (simp; done) | (simp; omega) | omega)).trans (by first | exact f2' | (simp [go_sem, f2', hlb', hl_m]; done)); have kb7_m : Blk w7 (w5.heap.size) 67 #[.int .i64 u1, .int .i64 u2] := Blk.below (by exact blkT) hb7 (by first | (simp; done) | (simp; omega) | omega); have kc7_m := kb7_m.cells; have kf7_m := kb7_m.frozens; have hl7_m := kb7_m.lt; have hn7_m := Nat.ne_of_lt hl7_m; try (have kb9 : Blk w7 W5.heap.size 67 #[.int .i64 0, .int .i64 0] := Blk.below (by exact blkT) hb7 (by exact sT); have kc9 := kb9.cells; have kf9 := kb9.frozens; have hl9 := kb9.lt; have hn9 := Nat.ne_of_lt hl9; have m0 : w5.heap.size ≠ W5.heap.size := (by omega); have k0 : W5.heap.size ≠ w5.heap.size := (by omega); have m1 : bb ≠ W5.heap.size := (by omega); have k1 : W5.heap.size ≠ bb := (by omega)))))
  ·have hr_s7 : Row2 w7 W1.heap.size w1.heap.size 69 3 A1 l.length c1 (t3s l) := Row2.below (by exact rowT) hb7 (by exact oT)
   go_upto_region 9 with fail
   first | refine name_world ?_ | refine name_wp ?_
   intro W7 hW
   replace hB : Below w.heap.size w W7 := by rw [hW]; exact tacT
   have hz_W7 : w7.heap.size ≤ W7.heap.size := by rw [hW]; exact sT
   replace kb_m : Blk W7 (w5.heap.size) 67 #[.int .i64 u1, .int .i64 u2] := by rw [hW]; exact blkT
   have hLW7_m := kb_m.lt
   replace kb_r : Blk W7 (w7.heap.size) 67 #[.int .i64 r1, .int .i64 r2] := by rw [hW]; exact blkT
   have hLW7_r := kb_r.lt
   replace hr_s : Row2 W7 (W1.heap.size) (w1.heap.size) 69 3 A1 (l.length) c1 (t3s l) := by rw [hW]; exact rowT
   try clear kc_m kf_m
   try clear kc_r kf_r
   clear hW
   clear hr_s7 kb7_m kc7_m kf7_m hl7_m hn7_m
   have kc_m := kb_m.cells
   have kf_m := kb_m.frozens
   have hl_m := kb_m.lt
   have hn_m := Nat.ne_of_lt kb_m.lt
   have kc_r := kb_r.cells
   have kf_r := kb_r.frozens
   have hl_r := kb_r.lt
   have hn_r := Nat.ne_of_lt kb_r.lt
   go_wp2_with fail
   refine (H1.out _ hB).mono ?_
   rintro e w8 ⟨A5, c5, rfl, ho5, hb⟩
   have hr_u := Row2.born ho5
   clear ho5
   replace hB := hB.trans (Below.mono hb hB.size)
   have hz_w8 : W7.heap.size ≤ w8.heap.size := Below.size hb
   replace kb_m := kb_m.mv hb; obtain ⟨kb_m, kc_m, kf_m, hl_m, hn_m⟩ := kb_m
   replace kb_r := kb_r.mv hb; obtain ⟨kb_r, kc_r, kf_r, hl_r, hn_r⟩ := kb_r
   replace hr_s := Row2.below hr_s hb (by omega)
   clear hb
   obtain ⟨g5, hg5, hgb5, hgl5, hgf5, q0, q1, q2, -⟩ := own_setS hr_u.1 HX.out
   subst hg5
   have hg5w : g5 < w8.heap.size := hgl5
   have hgm : g5 ≠ w5.heap.size := by omega
   have hgr : g5 ≠ w7.heap.size := by omega
   have hlc5 : (l.length : Int) ≤ (c5 : Int) := by have := (Rd.of_own hr_u.1).2.1; omega
   have hc563 : c5 ≤ 9223372036854775807 := (Rd.of_own hr_u.1).2.2.1
   go_upto_region 13 with fail
   first | refine name_world ?_ | refine name_wp ?_
   intro W9 hW
   replace hB : Below w.heap.size w W9 := by rw [hW]; exact tacT
   have hz_W9 : w8.heap.size ≤ W9.heap.size := by rw [hW]; exact sT
   replace kb_m : Blk W9 (w5.heap.size) 67 #[.int .i64 u1, .int .i64 u2] := by rw [hW]; exact blkT
   replace kb_r : Blk W9 (w7.heap.size) 67 #[.int .i64 r1, .int .i64 r2] := by rw [hW]; exact blkT
   replace hr_s : Row2 W9 W1.heap.size w1.heap.size 69 3 A1 l.length c1 (t3s l) := by rw [hW]; exact rowT
   have hr_v : Row2 W9 W7.heap.size w8.heap.size 69 3 (some ⟨g5, 0, none⟩) l.length c5 (t3s (l.set k ⟨x.x, r1, r2⟩)) := by rw [hW]; exact ⟨(own_store2 hr_u HX.out r1 r2).1, hr_u.2⟩
   clear hW hr_u q0 q1 q2 hgf5 kc_m kf_m kc_r kf_r
   have kc_m := kb_m.cells
   have kc_r := kb_r.cells
   have hl_m := kb_m.lt
   have hl_r := kb_r.lt
   by_cases hr0 : r1 = 0
   ·obtain hq9 : q = l.take k ++ l.drop (k + 1) := by have h9 := HCUT.out; rw [if_pos hr0] at h9; exact h9
    have hqn : q.length = l.length - 1 := by rw [hq9, List.length_append, List.length_take, List.length_drop]; omega
    have HQ9 := Lib.hid hq9
    clear hq9
    have hr0' : (r1 == 0) = true := by simpa using hr0
    go_wp2_with fail
    refine (HDE.out _ _ _ _ hr_v.1).mono ?_
    rintro e WD ⟨rfl, hod, hgd⟩
    replace hgd : W9.grownBy WD (some g5) := hgd
    replace kb_m := Blk.grown kb_m hgd (fun h9 => hgm (Option.some.inj h9).symm)
    replace hr_s := Row2.chg hr_s (Row2.wrote' hr_v hgd) (.inl (by omega))
    replace hB := Chg.below hB (Row2.wrote' hr_v hgd) (by omega) (by omega)
    have hzD := hgd.size
    rw [← HQ9.out] at hod
    replace hr_v : Row2 WD W7.heap.size w8.heap.size 69 3 (some ⟨g5, 0, none⟩) (l.length - 1) c5 (t3s q) := ⟨hod, fun g hg => hr_v.2 g hg⟩
    clear hod hgd kc_m kc_r kb_r
    have kc_m := kb_m.cells
    have hl_m := kb_m.lt
    have HQN := Lib.hid hqn
    clear hqn
    go_wp2_with fail
    refine (HAD.out _ _ _ _ _ HQN.out hr_v.1 (by omega)).mono ?_
    rintro e WA ⟨A6, c6, r, ok, rfl, hIs, ho6, hg6⟩
    replace hg6 : WD.grownBy WA (some g5) := hg6
    replace hr_s := Row2.chg hr_s (Row2.wrote' hr_v hg6) (.inl (by omega))
    replace hB := Chg.below hB (Row2.wrote' hr_v hg6) (by omega) (by omega)
    have HEE := Lib.hid (HEND.out r ok hIs)
    have HO6 := Lib.hid ho6
    have hzA := hg6.size
    clear hIs ho6 hg6 hr_v kb_m kc_m
    (try clear kc_r)
    (try clear kb_r)
    cases ok
    ·have HR9 : Hid (R = (l, false)) := HEE.out
     go_wp2_with fail
     refine bodyPost_ret (v := .tuple #[.slice A1 l.length c1, .bool false]) ?_ rfl ?_
     ·simp [results, Tryz.results102, go_sem]
     ·rw [HR9.out]
      exact ⟨A1, c1, rfl, (Row2.mono (lo := W1.heap.size) (hi := w1.heap.size) (hi' := w1.heap.size) (by exact rowT) (by omega) (Nat.le_refl _)).1, by exact tacT⟩
    ·go_wp2_with fail
     have hr_o : Row2 WA W7.heap.size WA.heap.size 69 3 A6 r.length c6 (t3s r) := ⟨HO6.out, fun g hg => (HO6.out.lt g hg).2⟩
     refine (H3q.out _ _ _ _ (Rd.of_own HO6.out)).mono ?_
     rintro e WB ⟨rfl, hb⟩
     replace hB := hB.trans (Below.mono hb hB.size)
     have hz_WB : WA.heap.size ≤ WB.heap.size := Below.size hb
     replace hr_s := Row2.below hr_s hb (by omega)
     replace hr_o := Row2.below hr_o hb (by omega)
     clear hb
     cases hok : rightsOk r
     ·have HR9 : Hid (R = (l, false)) := by have h9 := HEE.out; rw [hok] at h9; exact h9
      clear hok
      go_wp2_with fail
      refine bodyPost_ret (v := .tuple #[.slice A1 l.length c1, .bool false]) ?_ rfl ?_
      ·simp [results, Tryz.results102, go_sem]
      ·rw [HR9.out]
       exact ⟨A1, c1, rfl, (Row2.mono (lo := W1.heap.size) (hi := w1.heap.size) (hi' := w1.heap.size) (by exact rowT) (by omega) (Nat.le_refl _)).1, by exact tacT⟩
     ·have HR9 : Hid (R = (r, true)) := by have h9 := HEE.out; rw [hok] at h9; exact h9
      clear hok
      go_wp2_with fail
      refine bodyPost_ret (v := .tuple #[.slice A6 r.length c6, .bool true]) ?_ rfl ?_
      ·simp [results, Tryz.results102, go_sem]
      ·rw [HR9.out]
       exact ⟨A6, c6, rfl, (Row2.mono (lo := W7.heap.size) (hi := WA.heap.size) (hi' := WA.heap.size) (by exact rowT) (by omega) (Nat.le_refl _)).1, by exact tacT⟩
   ·obtain hq9 : q = l.set k ⟨f, r1, r2⟩ := by have h9 := HCUT.out; rw [if_neg hr0] at h9; exact h9
    have hqn : q.length = l.length := by rw [hq9, List.length_set]
    have hr0' : (r1 == 0) = false := by simpa using hr0
    rw [HXF.out, ← hq9] at hr_v
    have HQN := Lib.hid hqn
    clear hq9 hqn
    go_wp2_with fail
    refine (HAD.out _ _ _ _ _ HQN.out hr_v.1 (by omega)).mono ?_
    rintro e WA ⟨A6, c6, r, ok, rfl, hIs, ho6, hg6⟩
    replace hg6 : W9.grownBy WA (some g5) := hg6
    replace hr_s := Row2.chg hr_s (Row2.wrote' hr_v hg6) (.inl (by omega))
    replace hB := Chg.below hB (Row2.wrote' hr_v hg6) (by omega) (by omega)
    have HEE := Lib.hid (HEND.out r ok hIs)
    have HO6 := Lib.hid ho6
    have hzA := hg6.size
    clear hIs ho6 hg6 hr_v kb_m kc_m
    (try clear kc_r)
    (try clear kb_r)
    cases ok
    ·have HR9 : Hid (R = (l, false)) := HEE.out
     go_wp2_with fail
     refine bodyPost_ret (v := .tuple #[.slice A1 l.length c1, .bool false]) ?_ rfl ?_
     ·simp [results, Tryz.results102, go_sem]
     ·rw [HR9.out]
      exact ⟨A1, c1, rfl, (Row2.mono (lo := W1.heap.size) (hi := w1.heap.size) (hi' := w1.heap.size) (by exact rowT) (by omega) (Nat.le_refl _)).1, by exact tacT⟩
    ·go_wp2_with fail
     have hr_o : Row2 WA W7.heap.size WA.heap.size 69 3 A6 r.length c6 (t3s r) := ⟨HO6.out, fun g hg => (HO6.out.lt g hg).2⟩
     refine (H3q.out _ _ _ _ (Rd.of_own HO6.out)).mono ?_
     rintro e WB ⟨rfl, hb⟩
     replace hB := hB.trans (Below.mono hb hB.size)
     have hz_WB : WA.heap.size ≤ WB.heap.size := Below.size hb
     replace hr_s := Row2.below hr_s hb (by omega)
     replace hr_o := Row2.below hr_o hb (by omega)
     clear hb
     cases hok : rightsOk r
     ·have HR9 : Hid (R = (l, false)) := by have h9 := HEE.out; rw [hok] at h9; exact h9
      clear hok
      go_wp2_with fail
      refine bodyPost_ret (v := .tuple #[.slice A1 l.length c1, .bool false]) ?_ rfl ?_
      ·simp [results, Tryz.results102, go_sem]
      ·rw [HR9.out]
       exact ⟨A1, c1, rfl, (Row2.mono (lo := W1.heap.size) (hi := w1.heap.size) (hi' := w1.heap.size) (by exact rowT) (by omega) (Nat.le_refl _)).1, by exact tacT⟩
     ·have HR9 : Hid (R = (r, true)) := by have h9 := HEE.out; rw [hok] at h9; exact h9
      clear hok
      go_wp2_with fail
      refine bodyPost_ret (v := .tuple #[.slice A6 r.length c6, .bool true]) ?_ rfl ?_
      ·simp [results, Tryz.results102, go_sem]
      ·rw [HR9.out]
       exact ⟨A6, c6, rfl, (Row2.mono (lo := W7.heap.size) (hi := WA.heap.size) (hi' := WA.heap.size) (by exact rowT) (by omega) (Nat.le_refl _)).1, by exact tacT⟩
  ·have hr_s7 : Row2 w7 W1.heap.size w1.heap.size 69 3 A1 l.length c1 (t3s l) := Row2.below (by exact rowT) hb7 (by exact oT)
   go_upto_region 9 with fail
   first | refine name_world ?_ | refine name_wp ?_
   intro W7 hW
   replace hB : Below w.heap.size w W7 := by rw [hW]; exact tacT
   have hz_W7 : w7.heap.size ≤ W7.heap.size := by rw [hW]; exact sT
   replace kb_m : Blk W7 (w5.heap.size) 67 #[.int .i64 u1, .int .i64 u2] := by rw [hW]; exact blkT
   have hLW7_m := kb_m.lt
   replace kb_r : Blk W7 (W5.heap.size) 67 #[.int .i64 r1, .int .i64 r2] := by rw [hW]; exact blkT
   have hLW7_r := kb_r.lt
   replace hr_s : Row2 W7 (W1.heap.size) (w1.heap.size) 69 3 A1 (l.length) c1 (t3s l) := by rw [hW]; exact rowT
   try clear kc_m kf_m
   try clear kc_r kf_r
   clear hW
   clear hr_s7 kb7_m kc7_m kf7_m hl7_m hn7_m
   have kc_m := kb_m.cells
   have kf_m := kb_m.frozens
   have hl_m := kb_m.lt
   have hn_m := Nat.ne_of_lt kb_m.lt
   have kc_r := kb_r.cells
   have kf_r := kb_r.frozens
   have hl_r := kb_r.lt
   have hn_r := Nat.ne_of_lt kb_r.lt
   go_wp2_with fail
   refine (H1.out _ hB).mono ?_
   rintro e w8 ⟨A5, c5, rfl, ho5, hb⟩
   have hr_u := Row2.born ho5
   clear ho5
   replace hB := hB.trans (Below.mono hb hB.size)
   have hz_w8 : W7.heap.size ≤ w8.heap.size := Below.size hb
   replace kb_m := kb_m.mv hb; obtain ⟨kb_m, kc_m, kf_m, hl_m, hn_m⟩ := kb_m
   replace kb_r := kb_r.mv hb; obtain ⟨kb_r, kc_r, kf_r, hl_r, hn_r⟩ := kb_r
   replace hr_s := Row2.below hr_s hb (by omega)
   clear hb
   obtain ⟨g5, hg5, hgb5, hgl5, hgf5, q0, q1, q2, -⟩ := own_setS hr_u.1 HX.out
   subst hg5
   have hg5w : g5 < w8.heap.size := hgl5
   have hgm : g5 ≠ w5.heap.size := by omega
   have hgr : g5 ≠ W5.heap.size := by omega
   have hlc5 : (l.length : Int) ≤ (c5 : Int) := by have := (Rd.of_own hr_u.1).2.1; omega
   have hc563 : c5 ≤ 9223372036854775807 := (Rd.of_own hr_u.1).2.2.1
   go_upto_region 13 with fail
   first | refine name_world ?_ | refine name_wp ?_
   intro W9 hW
   replace hB : Below w.heap.size w W9 := by rw [hW]; exact tacT
   have hz_W9 : w8.heap.size ≤ W9.heap.size := by rw [hW]; exact sT
   replace kb_m : Blk W9 (w5.heap.size) 67 #[.int .i64 u1, .int .i64 u2] := by rw [hW]; exact blkT
   replace kb_r : Blk W9 (W5.heap.size) 67 #[.int .i64 r1, .int .i64 r2] := by rw [hW]; exact blkT
   replace hr_s : Row2 W9 W1.heap.size w1.heap.size 69 3 A1 l.length c1 (t3s l) := by rw [hW]; exact rowT
   have hr_v : Row2 W9 W7.heap.size w8.heap.size 69 3 (some ⟨g5, 0, none⟩) l.length c5 (t3s (l.set k ⟨x.x, r1, r2⟩)) := by rw [hW]; exact ⟨(own_store2 hr_u HX.out r1 r2).1, hr_u.2⟩
   clear hW hr_u q0 q1 q2 hgf5 kc_m kf_m kc_r kf_r
   have kc_m := kb_m.cells
   have kc_r := kb_r.cells
   have hl_m := kb_m.lt
   have hl_r := kb_r.lt
   by_cases hr0 : r1 = 0
   ·obtain hq9 : q = l.take k ++ l.drop (k + 1) := by have h9 := HCUT.out; rw [if_pos hr0] at h9; exact h9
    have hqn : q.length = l.length - 1 := by rw [hq9, List.length_append, List.length_take, List.length_drop]; omega
    have HQ9 := Lib.hid hq9
    clear hq9
    have hr0' : (r1 == 0) = true := by simpa using hr0
    go_wp2_with fail
    refine (HDE.out _ _ _ _ hr_v.1).mono ?_
    rintro e WD ⟨rfl, hod, hgd⟩
    replace hgd : W9.grownBy WD (some g5) := hgd
    replace kb_m := Blk.grown kb_m hgd (fun h9 => hgm (Option.some.inj h9).symm)
    replace hr_s := Row2.chg hr_s (Row2.wrote' hr_v hgd) (.inl (by omega))
    replace hB := Chg.below hB (Row2.wrote' hr_v hgd) (by omega) (by omega)
    have hzD := hgd.size
    rw [← HQ9.out] at hod
    replace hr_v : Row2 WD W7.heap.size w8.heap.size 69 3 (some ⟨g5, 0, none⟩) (l.length - 1) c5 (t3s q) := ⟨hod, fun g hg => hr_v.2 g hg⟩
    clear hod hgd kc_m kc_r kb_r
    have kc_m := kb_m.cells
    have hl_m := kb_m.lt
    have HQN := Lib.hid hqn
    clear hqn
    go_wp2_with fail
    refine (HAD.out _ _ _ _ _ HQN.out hr_v.1 (by omega)).mono ?_
    rintro e WA ⟨A6, c6, r, ok, rfl, hIs, ho6, hg6⟩
    replace hg6 : WD.grownBy WA (some g5) := hg6
    replace hr_s := Row2.chg hr_s (Row2.wrote' hr_v hg6) (.inl (by omega))
    replace hB := Chg.below hB (Row2.wrote' hr_v hg6) (by omega) (by omega)
    have HEE := Lib.hid (HEND.out r ok hIs)
    have HO6 := Lib.hid ho6
    have hzA := hg6.size
    clear hIs ho6 hg6 hr_v kb_m kc_m
    (try clear kc_r)
    (try clear kb_r)
    cases ok
    ·have HR9 : Hid (R = (l, false)) := HEE.out
     go_wp2_with fail
     refine bodyPost_ret (v := .tuple #[.slice A1 l.length c1, .bool false]) ?_ rfl ?_
     ·simp [results, Tryz.results102, go_sem]
     ·rw [HR9.out]
      exact ⟨A1, c1, rfl, (Row2.mono (lo := W1.heap.size) (hi := w1.heap.size) (hi' := w1.heap.size) (by exact rowT) (by omega) (Nat.le_refl _)).1, by exact tacT⟩
    ·go_wp2_with fail
     have hr_o : Row2 WA W7.heap.size WA.heap.size 69 3 A6 r.length c6 (t3s r) := ⟨HO6.out, fun g hg => (HO6.out.lt g hg).2⟩
     refine (H3q.out _ _ _ _ (Rd.of_own HO6.out)).mono ?_
     rintro e WB ⟨rfl, hb⟩
     replace hB := hB.trans (Below.mono hb hB.size)
     have hz_WB : WA.heap.size ≤ WB.heap.size := Below.size hb
     replace hr_s := Row2.below hr_s hb (by omega)
     replace hr_o := Row2.below hr_o hb (by omega)
     clear hb
     cases hok : rightsOk r
     ·have HR9 : Hid (R = (l, false)) := by have h9 := HEE.out; rw [hok] at h9; exact h9
      clear hok
      go_wp2_with fail
      refine bodyPost_ret (v := .tuple #[.slice A1 l.length c1, .bool false]) ?_ rfl ?_
      ·simp [results, Tryz.results102, go_sem]
      ·rw [HR9.out]
       exact ⟨A1, c1, rfl, (Row2.mono (lo := W1.heap.size) (hi := w1.heap.size) (hi' := w1.heap.size) (by exact rowT) (by omega) (Nat.le_refl _)).1, by exact tacT⟩
     ·have HR9 : Hid (R = (r, true)) := by have h9 := HEE.out; rw [hok] at h9; exact h9
      clear hok
      go_wp2_with fail
      refine bodyPost_ret (v := .tuple #[.slice A6 r.length c6, .bool true]) ?_ rfl ?_
      ·simp [results, Tryz.results102, go_sem]
      ·rw [HR9.out]
       exact ⟨A6, c6, rfl, (Row2.mono (lo := W7.heap.size) (hi := WA.heap.size) (hi' := WA.heap.size) (by exact rowT) (by omega) (Nat.le_refl _)).1, by exact tacT⟩
   ·obtain hq9 : q = l.set k ⟨f, r1, r2⟩ := by have h9 := HCUT.out; rw [if_neg hr0] at h9; exact h9
    have hqn : q.length = l.length := by rw [hq9, List.length_set]
    have hr0' : (r1 == 0) = false := by simpa using hr0
    rw [HXF.out, ← hq9] at hr_v
    have HQN := Lib.hid hqn
    clear hq9 hqn
    go_wp2_with fail
    refine (HAD.out _ _ _ _ _ HQN.out hr_v.1 (by omega)).mono ?_
    rintro e WA ⟨A6, c6, r, ok, rfl, hIs, ho6, hg6⟩
    replace hg6 : W9.grownBy WA (some g5) := hg6
    replace hr_s := Row2.chg hr_s (Row2.wrote' hr_v hg6) (.inl (by omega))
    replace hB := Chg.below hB (Row2.wrote' hr_v hg6) (by omega) (by omega)
    have HEE := Lib.hid (HEND.out r ok hIs)
    have HO6 := Lib.hid ho6
    have hzA := hg6.size
    clear hIs ho6 hg6 hr_v kb_m kc_m
    (try clear kc_r)
    (try clear kb_r)
    cases ok
    ·have HR9 : Hid (R = (l, false)) := HEE.out
     go_wp2_with fail
     refine bodyPost_ret (v := .tuple #[.slice A1 l.length c1, .bool false]) ?_ rfl ?_
     ·simp [results, Tryz.results102, go_sem]
     ·rw [HR9.out]
      exact ⟨A1, c1, rfl, (Row2.mono (lo := W1.heap.size) (hi := w1.heap.size) (hi' := w1.heap.size) (by exact rowT) (by omega) (Nat.le_refl _)).1, by exact tacT⟩
    ·go_wp2_with fail
     have hr_o : Row2 WA W7.heap.size WA.heap.size 69 3 A6 r.length c6 (t3s r) := ⟨HO6.out, fun g hg => (HO6.out.lt g hg).2⟩
     refine (H3q.out _ _ _ _ (Rd.of_own HO6.out)).mono ?_
     rintro e WB ⟨rfl, hb⟩
     replace hB := hB.trans (Below.mono hb hB.size)
     have hz_WB : WA.heap.size ≤ WB.heap.size := Below.size hb
     replace hr_s := Row2.below hr_s hb (by omega)
     replace hr_o := Row2.below hr_o hb (by omega)
     clear hb
     cases hok : rightsOk r
     ·have HR9 : Hid (R = (l, false)) := by have h9 := HEE.out; rw [hok] at h9; exact h9
      clear hok
      go_wp2_with fail
      refine bodyPost_ret (v := .tuple #[.slice A1 l.length c1, .bool false]) ?_ rfl ?_
      ·simp [results, Tryz.results102, go_sem]
      ·rw [HR9.out]
       exact ⟨A1, c1, rfl, (Row2.mono (lo := W1.heap.size) (hi := w1.heap.size) (hi' := w1.heap.size) (by exact rowT) (by omega) (Nat.le_refl _)).1, by exact tacT⟩
     ·have HR9 : Hid (R = (r, true)) := by have h9 := HEE.out; rw [hok] at h9; exact h9
      clear hok
      go_wp2_with fail
      refine bodyPost_ret (v := .tuple #[.slice A6 r.length c6, .bool true]) ?_ rfl ?_
      ·simp [results, Tryz.results102, go_sem]
      ·rw [HR9.out]
       exact ⟨A6, c6, rfl, (Row2.mono (lo := W7.heap.size) (hi := WA.heap.size) (hi' := WA.heap.size) (by exact rowT) (by omega) (Nat.le_refl _)).1, by exact tacT⟩
 ·have hr_s5 : Row2 w5 W1.heap.size w1.heap.size 69 3 A1 l.length c1 (t3s l) := Row2.below (by exact rowT) hb5 (by exact oT)
  go_upto_region 6 with fail
  first | refine name_world ?_ | refine name_wp ?_
  intro W5 hW
  replace hB : Below w.heap.size w W5 := by rw [hW]; exact tacT
  have hz_W5 : w5.heap.size ≤ W5.heap.size := by rw [hW]; exact sT
  replace kb_m : Blk W5 (w4.heap.size) 67 #[.int .i64 u1, .int .i64 u2] := by rw [hW]; exact blkT
  have hLW5_m := kb_m.lt
  replace hr_s : Row2 W5 (W1.heap.size) (w1.heap.size) 69 3 A1 (l.length) c1 (t3s l) := by rw [hW]; exact rowT
  try clear kc_m kf_m
  clear hW
  clear hr_s5 kb5_p kc5_p kf5_p hl5_p hn5_p
  have kc_m := kb_m.cells
  have kf_m := kb_m.frozens
  have hl_m := kb_m.lt
  have hn_m := Nat.ne_of_lt kb_m.lt
  go_wp2_with fail
  have f1' : W5.cell? ⟨bb, oo + k * 3 + 1, none⟩ = some (.int .i64 x.y) := (hB.cell (p := ⟨bb, _, none⟩) hbb).trans e1
  have f2' : W5.cell? ⟨bb, oo + k * 3 + 2, none⟩ = some (.int .i64 x.z) := (hB.cell (p := ⟨bb, _, none⟩) hbb).trans e2
  have hlb' : bb < W5.heap.size := by omega
  go_region_held3 (fun w' => w'.cell? ⟨w4.heap.size, 0, none⟩ = some (.int .i64 u1) ∧ w'.cell? ⟨w4.heap.size, 1, none⟩ = some (.int .i64 u2) ∧ w'.cell? ⟨bb, oo + k * 3 + 1, none⟩ = some (.int .i64 x.y) ∧ w'.cell? ⟨bb, oo + k * 3 + 2, none⟩ = some (.int .i64 x.z)) (first | (with_reducible exact ⟨kc_m 0, kc_m 1, f1', f2'⟩) | (refine ⟨?_, ?_, ?_, ?_⟩ <;> simp [go_sem, kc_m 0, kc_m 1, f1', f2', hlb', hl_m]; done) | (with_reducible exact ⟨y7_0, y7_1, y7_2, y7_3⟩) | (refine ⟨?_, ?_, ?_, ?_⟩ <;> simp [go_sem, y7_0, y7_1, y7_2, y7_3, hlb', hl_m, n7_0, l7_0, n7_1, l7_1, n7_2, l7_2, n7_3, l7_3]; done) | exact ⟨kc_m 0, kc_m 1, f1', f2'⟩)
   (((go_at_call 129; refine (HL.out _).mono ?_; rintro e w7 ⟨rfl, hb7⟩; unfold frRet; have hB7 : Below w.heap.size w w7 := (by exact tacT); have hz7 : W5.heap.size ≤ w7.heap.size := (by have hzz := Below.size hb7; first | omega | (simp at hzz; omega)); have l7_0 : w4.heap.size < w7.heap.size := (by omega); have n7_0 := Nat.ne_of_lt l7_0; have y7_0 : w7.cell? ⟨w4.heap.size, 0, none⟩ = some (.int .i64 u1) := (Below.cell hb7 (p := ⟨w4.heap.size, 0, none⟩) (by first | (simp; done) | (simp; omega) | omega)).trans (by first | exact kc_m 0 | (simp [go_sem, kc_m 0, hlb', hl_m]; done)); have l7_1 : w4.heap.size < w7.heap.size := (by omega); have n7_1 := Nat.ne_of_lt l7_1; have y7_1 : w7.cell? ⟨w4.heap.size, 1, none⟩ = some (.int .i64 u2) := (Below.cell hb7 (p := ⟨w4.heap.size, 1, none⟩) (by first | (simp; done) | (simp; omega) | omega)).trans (by first | exact kc_m 1 | (simp [go_sem, kc_m 1, hlb', hl_m]; done)); have l7_2 : bb < w7.heap.size := (by omega); have n7_2 := Nat.ne_of_lt l7_2; have y7_2 : w7.cell? ⟨bb, oo + k * 3 + 1, none⟩ = some (.int .i64 x.y) := (Below.cell hb7 (p := ⟨bb, oo + k * 3 + 1, none⟩) (by first | (simp; done) | (simp; omega) | omega)).trans (by first | exact f1' | (simp [go_sem, f1', hlb', hl_m]; done)); have l7_3 : bb < w7.heap.size := (by omega); have n7_3 := Nat.ne_of_lt l7_3; have y7_3 : w7.cell? ⟨bb, oo + k * 3 + 2, none⟩ = some (.int .i64 x.z) := (Below.cell hb7 (p := ⟨bb, oo + k * 3 + 2, none⟩) (by first | (simp; done) | (simp; omega) | omega)).trans (by first | exact f2' | (simp [go_sem, f2', hlb', hl_m]; done)); have kb7_m : Blk w7 (w4.heap.size) 67 #[.int .i64 u1, .int .i64 u2] := Blk.below (by exact blkT) hb7 (by first | (simp; done) | (simp; omega) | omega); have kc7_m := kb7_m.cells; have kf7_m := kb7_m.frozens; have hl7_m := kb7_m.lt; have hn7_m := Nat.ne_of_lt hl7_m; try (have kb9 : Blk w7 W5.heap.size 67 #[.int .i64 0, .int .i64 0] := Blk.below (by exact blkT) hb7 (by exact sT); have kc9 := kb9.cells; have kf9 := kb9.frozens; have hl9 := kb9.lt; have hn9 := Nat.ne_of_lt hl9; have m0 : w4.heap.size ≠ W5.heap.size := (by omega); have k0 : W5.heap.size ≠ w4.heap.size := (by omega); have m1 : bb ≠ W5.heap.size := (by omega); have k1 : W5.heap.size ≠ bb := (by omega)))))
  ·have hr_s7 : Row2 w7 W1.heap.size w1.heap.size 69 3 A1 l.length c1 (t3s l) := Row2.below (by exact rowT) hb7 (by exact oT)
   go_upto_region 9 with fail
   first | refine name_world ?_ | refine name_wp ?_
   intro W7 hW
   replace hB : Below w.heap.size w W7 := by rw [hW]; exact tacT
   have hz_W7 : w7.heap.size ≤ W7.heap.size := by rw [hW]; exact sT
   replace kb_m : Blk W7 (w4.heap.size) 67 #[.int .i64 u1, .int .i64 u2] := by rw [hW]; exact blkT
   have hLW7_m := kb_m.lt
   replace kb_r : Blk W7 (w7.heap.size) 67 #[.int .i64 r1, .int .i64 r2] := by rw [hW]; exact blkT
   have hLW7_r := kb_r.lt
   replace hr_s : Row2 W7 (W1.heap.size) (w1.heap.size) 69 3 A1 (l.length) c1 (t3s l) := by rw [hW]; exact rowT
   try clear kc_m kf_m
   try clear kc_r kf_r
   clear hW
   clear hr_s7 kb7_m kc7_m kf7_m hl7_m hn7_m
   have kc_m := kb_m.cells
   have kf_m := kb_m.frozens
   have hl_m := kb_m.lt
   have hn_m := Nat.ne_of_lt kb_m.lt
   have kc_r := kb_r.cells
   have kf_r := kb_r.frozens
   have hl_r := kb_r.lt
   have hn_r := Nat.ne_of_lt kb_r.lt
   go_wp2_with fail
   refine (H1.out _ hB).mono ?_
   rintro e w8 ⟨A5, c5, rfl, ho5, hb⟩
   have hr_u := Row2.born ho5
   clear ho5
   replace hB := hB.trans (Below.mono hb hB.size)
   have hz_w8 : W7.heap.size ≤ w8.heap.size := Below.size hb
   replace kb_m := kb_m.mv hb; obtain ⟨kb_m, kc_m, kf_m, hl_m, hn_m⟩ := kb_m
   replace kb_r := kb_r.mv hb; obtain ⟨kb_r, kc_r, kf_r, hl_r, hn_r⟩ := kb_r
   replace hr_s := Row2.below hr_s hb (by omega)
   clear hb
   obtain ⟨g5, hg5, hgb5, hgl5, hgf5, q0, q1, q2, -⟩ := own_setS hr_u.1 HX.out
   subst hg5
   have hg5w : g5 < w8.heap.size := hgl5
   have hgm : g5 ≠ w4.heap.size := by omega
   have hgr : g5 ≠ w7.heap.size := by omega
   have hlc5 : (l.length : Int) ≤ (c5 : Int) := by have := (Rd.of_own hr_u.1).2.1; omega
   have hc563 : c5 ≤ 9223372036854775807 := (Rd.of_own hr_u.1).2.2.1
   go_upto_region 13 with fail
   first | refine name_world ?_ | refine name_wp ?_
   intro W9 hW
   replace hB : Below w.heap.size w W9 := by rw [hW]; exact tacT
   have hz_W9 : w8.heap.size ≤ W9.heap.size := by rw [hW]; exact sT
   replace kb_m : Blk W9 (w4.heap.size) 67 #[.int .i64 u1, .int .i64 u2] := by rw [hW]; exact blkT
   replace kb_r : Blk W9 (w7.heap.size) 67 #[.int .i64 r1, .int .i64 r2] := by rw [hW]; exact blkT
   replace hr_s : Row2 W9 W1.heap.size w1.heap.size 69 3 A1 l.length c1 (t3s l) := by rw [hW]; exact rowT
   have hr_v : Row2 W9 W7.heap.size w8.heap.size 69 3 (some ⟨g5, 0, none⟩) l.length c5 (t3s (l.set k ⟨x.x, r1, r2⟩)) := by rw [hW]; exact ⟨(own_store2 hr_u HX.out r1 r2).1, hr_u.2⟩
   clear hW hr_u q0 q1 q2 hgf5 kc_m kf_m kc_r kf_r
   have kc_m := kb_m.cells
   have kc_r := kb_r.cells
   have hl_m := kb_m.lt
   have hl_r := kb_r.lt
   by_cases hr0 : r1 = 0
   ·obtain hq9 : q = l.take k ++ l.drop (k + 1) := by have h9 := HCUT.out; rw [if_pos hr0] at h9; exact h9
    have hqn : q.length = l.length - 1 := by rw [hq9, List.length_append, List.length_take, List.length_drop]; omega
    have HQ9 := Lib.hid hq9
    clear hq9
    have hr0' : (r1 == 0) = true := by simpa using hr0
    go_wp2_with fail
    refine (HDE.out _ _ _ _ hr_v.1).mono ?_
    rintro e WD ⟨rfl, hod, hgd⟩
    replace hgd : W9.grownBy WD (some g5) := hgd
    replace kb_m := Blk.grown kb_m hgd (fun h9 => hgm (Option.some.inj h9).symm)
    replace hr_s := Row2.chg hr_s (Row2.wrote' hr_v hgd) (.inl (by omega))
    replace hB := Chg.below hB (Row2.wrote' hr_v hgd) (by omega) (by omega)
    have hzD := hgd.size
    rw [← HQ9.out] at hod
    replace hr_v : Row2 WD W7.heap.size w8.heap.size 69 3 (some ⟨g5, 0, none⟩) (l.length - 1) c5 (t3s q) := ⟨hod, fun g hg => hr_v.2 g hg⟩
    clear hod hgd kc_m kc_r kb_r
    have kc_m := kb_m.cells
    have hl_m := kb_m.lt
    have HQN := Lib.hid hqn
    clear hqn
    go_wp2_with fail
    refine (HAD.out _ _ _ _ _ HQN.out hr_v.1 (by omega)).mono ?_
    rintro e WA ⟨A6, c6, r, ok, rfl, hIs, ho6, hg6⟩
    replace hg6 : WD.grownBy WA (some g5) := hg6
    replace hr_s := Row2.chg hr_s (Row2.wrote' hr_v hg6) (.inl (by omega))
    replace hB := Chg.below hB (Row2.wrote' hr_v hg6) (by omega) (by omega)
    have HEE := Lib.hid (HEND.out r ok hIs)
    have HO6 := Lib.hid ho6
    have hzA := hg6.size
    clear hIs ho6 hg6 hr_v kb_m kc_m
    (try clear kc_r)
    (try clear kb_r)
    cases ok
    ·have HR9 : Hid (R = (l, false)) := HEE.out
     go_wp2_with fail
     refine bodyPost_ret (v := .tuple #[.slice A1 l.length c1, .bool false]) ?_ rfl ?_
     ·simp [results, Tryz.results102, go_sem]
     ·rw [HR9.out]
      exact ⟨A1, c1, rfl, (Row2.mono (lo := W1.heap.size) (hi := w1.heap.size) (hi' := w1.heap.size) (by exact rowT) (by omega) (Nat.le_refl _)).1, by exact tacT⟩
    ·go_wp2_with fail
     have hr_o : Row2 WA W7.heap.size WA.heap.size 69 3 A6 r.length c6 (t3s r) := ⟨HO6.out, fun g hg => (HO6.out.lt g hg).2⟩
     refine (H3q.out _ _ _ _ (Rd.of_own HO6.out)).mono ?_
     rintro e WB ⟨rfl, hb⟩
     replace hB := hB.trans (Below.mono hb hB.size)
     have hz_WB : WA.heap.size ≤ WB.heap.size := Below.size hb
     replace hr_s := Row2.below hr_s hb (by omega)
     replace hr_o := Row2.below hr_o hb (by omega)
     clear hb
     cases hok : rightsOk r
     ·have HR9 : Hid (R = (l, false)) := by have h9 := HEE.out; rw [hok] at h9; exact h9
      clear hok
      go_wp2_with fail
      refine bodyPost_ret (v := .tuple #[.slice A1 l.length c1, .bool false]) ?_ rfl ?_
      ·simp [results, Tryz.results102, go_sem]
      ·rw [HR9.out]
       exact ⟨A1, c1, rfl, (Row2.mono (lo := W1.heap.size) (hi := w1.heap.size) (hi' := w1.heap.size) (by exact rowT) (by omega) (Nat.le_refl _)).1, by exact tacT⟩
     ·have HR9 : Hid (R = (r, true)) := by have h9 := HEE.out; rw [hok] at h9; exact h9
      clear hok
      go_wp2_with fail
      refine bodyPost_ret (v := .tuple #[.slice A6 r.length c6, .bool true]) ?_ rfl ?_
      ·simp [results, Tryz.results102, go_sem]
      ·rw [HR9.out]
       exact ⟨A6, c6, rfl, (Row2.mono (lo := W7.heap.size) (hi := WA.heap.size) (hi' := WA.heap.size) (by exact rowT) (by omega) (Nat.le_refl _)).1, by exact tacT⟩
   ·obtain hq9 : q = l.set k ⟨f, r1, r2⟩ := by have h9 := HCUT.out; rw [if_neg hr0] at h9; exact h9
    have hqn : q.length = l.length := by rw [hq9, List.length_set]
    have hr0' : (r1 == 0) = false := by simpa using hr0
    rw [HXF.out, ← hq9] at hr_v
    have HQN := Lib.hid hqn
    clear hq9 hqn
    go_wp2_with fail
    refine (HAD.out _ _ _ _ _ HQN.out hr_v.1 (by omega)).mono ?_
    rintro e WA ⟨A6, c6, r, ok, rfl, hIs, ho6, hg6⟩
    replace hg6 : W9.grownBy WA (some g5) := hg6
    replace hr_s := Row2.chg hr_s (Row2.wrote' hr_v hg6) (.inl (by omega))
    replace hB := Chg.below hB (Row2.wrote' hr_v hg6) (by omega) (by omega)
    have HEE := Lib.hid (HEND.out r ok hIs)
    have HO6 := Lib.hid ho6
    have hzA := hg6.size
    clear hIs ho6 hg6 hr_v kb_m kc_m
    (try clear kc_r)
    (try clear kb_r)
    cases ok
    ·have HR9 : Hid (R = (l, false)) := HEE.out
     go_wp2_with fail
     refine bodyPost_ret (v := .tuple #[.slice A1 l.length c1, .bool false]) ?_ rfl ?_
     ·simp [results, Tryz.results102, go_sem]
     ·rw [HR9.out]
      exact ⟨A1, c1, rfl, (Row2.mono (lo := W1.heap.size) (hi := w1.heap.size) (hi' := w1.heap.size) (by exact rowT) (by omega) (Nat.le_refl _)).1, by exact tacT⟩
    ·go_wp2_with fail
     have hr_o : Row2 WA W7.heap.size WA.heap.size 69 3 A6 r.length c6 (t3s r) := ⟨HO6.out, fun g hg => (HO6.out.lt g hg).2⟩
     refine (H3q.out _ _ _ _ (Rd.of_own HO6.out)).mono ?_
     rintro e WB ⟨rfl, hb⟩
     replace hB := hB.trans (Below.mono hb hB.size)
     have hz_WB : WA.heap.size ≤ WB.heap.size := Below.size hb
     replace hr_s := Row2.below hr_s hb (by omega)
     replace hr_o := Row2.below hr_o hb (by omega)
     clear hb
     cases hok : rightsOk r
     ·have HR9 : Hid (R = (l, false)) := by have h9 := HEE.out; rw [hok] at h9; exact h9
      clear hok
      go_wp2_with fail
      refine bodyPost_ret (v := .tuple #[.slice A1 l.length c1, .bool false]) ?_ rfl ?_
      ·simp [results, Tryz.results102, go_sem]
      ·rw [HR9.out]
       exact ⟨A1, c1, rfl, (Row2.mono (lo := W1.heap.size) (hi := w1.heap.size) (hi' := w1.heap.size) (by exact rowT) (by omega) (Nat.le_refl _)).1, by exact tacT⟩
     ·have HR9 : Hid (R = (r, true)) := by have h9 := HEE.out; rw [hok] at h9; exact h9
      clear hok
      go_wp2_with fail
      refine bodyPost_ret (v := .tuple #[.slice A6 r.length c6, .bool true]) ?_ rfl ?_
      ·simp [results, Tryz.results102, go_sem]
      ·rw [HR9.out]
       exact ⟨A6, c6, rfl, (Row2.mono (lo := W7.heap.size) (hi := WA.heap.size) (hi' := WA.heap.size) (by exact rowT) (by omega) (Nat.le_refl _)).1, by exact tacT⟩
  ·have hr_s7 : Row2 w7 W1.heap.size w1.heap.size 69 3 A1 l.length c1 (t3s l) := Row2.below (by exact rowT) hb7 (by exact oT)
   go_upto_region 9 with fail
   first | refine name_world ?_ | refine name_wp ?_
   intro W7 hW
   replace hB : Below w.heap.size w W7 := by rw [hW]; exact tacT
   have hz_W7 : w7.heap.size ≤ W7.heap.size := by rw [hW]; exact sT
   replace kb_m : Blk W7 (w4.heap.size) 67 #[.int .i64 u1, .int .i64 u2] := by rw [hW]; exact blkT
   have hLW7_m := kb_m.lt
   replace kb_r : Blk W7 (W5.heap.size) 67 #[.int .i64 r1, .int .i64 r2] := by rw [hW]; exact blkT
   have hLW7_r := kb_r.lt
   replace hr_s : Row2 W7 (W1.heap.size) (w1.heap.size) 69 3 A1 (l.length) c1 (t3s l) := by rw [hW]; exact rowT
   try clear kc_m kf_m
   try clear kc_r kf_r
   clear hW
   clear hr_s7 kb7_m kc7_m kf7_m hl7_m hn7_m
   have kc_m := kb_m.cells
   have kf_m := kb_m.frozens
   have hl_m := kb_m.lt
   have hn_m := Nat.ne_of_lt kb_m.lt
   have kc_r := kb_r.cells
   have kf_r := kb_r.frozens
   have hl_r := kb_r.lt
   have hn_r := Nat.ne_of_lt kb_r.lt
   go_wp2_with fail
   refine (H1.out _ hB).mono ?_
   rintro e w8 ⟨A5, c5, rfl, ho5, hb⟩
   have hr_u := Row2.born ho5
   clear ho5
   replace hB := hB.trans (Below.mono hb hB.size)
   have hz_w8 : W7.heap.size ≤ w8.heap.size := Below.size hb
   replace kb_m := kb_m.mv hb; obtain ⟨kb_m, kc_m, kf_m, hl_m, hn_m⟩ := kb_m
   replace kb_r := kb_r.mv hb; obtain ⟨kb_r, kc_r, kf_r, hl_r, hn_r⟩ := kb_r
   replace hr_s := Row2.below hr_s hb (by omega)
   clear hb
   obtain ⟨g5, hg5, hgb5, hgl5, hgf5, q0, q1, q2, -⟩ := own_setS hr_u.1 HX.out
   subst hg5
   have hg5w : g5 < w8.heap.size := hgl5
   have hgm : g5 ≠ w4.heap.size := by omega
   have hgr : g5 ≠ W5.heap.size := by omega
   have hlc5 : (l.length : Int) ≤ (c5 : Int) := by have := (Rd.of_own hr_u.1).2.1; omega
   have hc563 : c5 ≤ 9223372036854775807 := (Rd.of_own hr_u.1).2.2.1
   go_upto_region 13 with fail
   first | refine name_world ?_ | refine name_wp ?_
   intro W9 hW
   replace hB : Below w.heap.size w W9 := by rw [hW]; exact tacT
   have hz_W9 : w8.heap.size ≤ W9.heap.size := by rw [hW]; exact sT
   replace kb_m : Blk W9 (w4.heap.size) 67 #[.int .i64 u1, .int .i64 u2] := by rw [hW]; exact blkT
   replace kb_r : Blk W9 (W5.heap.size) 67 #[.int .i64 r1, .int .i64 r2] := by rw [hW]; exact blkT
   replace hr_s : Row2 W9 W1.heap.size w1.heap.size 69 3 A1 l.length c1 (t3s l) := by rw [hW]; exact rowT
   have hr_v : Row2 W9 W7.heap.size w8.heap.size 69 3 (some ⟨g5, 0, none⟩) l.length c5 (t3s (l.set k ⟨x.x, r1, r2⟩)) := by rw [hW]; exact ⟨(own_store2 hr_u HX.out r1 r2).1, hr_u.2⟩
   clear hW hr_u q0 q1 q2 hgf5 kc_m kf_m kc_r kf_r
   have kc_m := kb_m.cells
   have kc_r := kb_r.cells
   have hl_m := kb_m.lt
   have hl_r := kb_r.lt
   by_cases hr0 : r1 = 0
   ·obtain hq9 : q = l.take k ++ l.drop (k + 1) := by have h9 := HCUT.out; rw [if_pos hr0] at h9; exact h9
    have hqn : q.length = l.length - 1 := by rw [hq9, List.length_append, List.length_take, List.length_drop]; omega
    have HQ9 := Lib.hid hq9
    clear hq9
    have hr0' : (r1 == 0) = true := by simpa using hr0
    go_wp2_with fail
    refine (HDE.out _ _ _ _ hr_v.1).mono ?_
    rintro e WD ⟨rfl, hod, hgd⟩
    replace hgd : W9.grownBy WD (some g5) := hgd
    replace kb_m := Blk.grown kb_m hgd (fun h9 => hgm (Option.some.inj h9).symm)
    replace hr_s := Row2.chg hr_s (Row2.wrote' hr_v hgd) (.inl (by omega))
    replace hB := Chg.below hB (Row2.wrote' hr_v hgd) (by omega) (by omega)
    have hzD := hgd.size
    rw [← HQ9.out] at hod
    replace hr_v : Row2 WD W7.heap.size w8.heap.size 69 3 (some ⟨g5, 0, none⟩) (l.length - 1) c5 (t3s q) := ⟨hod, fun g hg => hr_v.2 g hg⟩
    clear hod hgd kc_m kc_r kb_r
    have kc_m := kb_m.cells
    have hl_m := kb_m.lt
    have HQN := Lib.hid hqn
    clear hqn
    go_wp2_with fail
    refine (HAD.out _ _ _ _ _ HQN.out hr_v.1 (by omega)).mono ?_
    rintro e WA ⟨A6, c6, r, ok, rfl, hIs, ho6, hg6⟩
    replace hg6 : WD.grownBy WA (some g5) := hg6
    replace hr_s := Row2.chg hr_s (Row2.wrote' hr_v hg6) (.inl (by omega))
    replace hB := Chg.below hB (Row2.wrote' hr_v hg6) (by omega) (by omega)
    have HEE := Lib.hid (HEND.out r ok hIs)
    have HO6 := Lib.hid ho6
    have hzA := hg6.size
    clear hIs ho6 hg6 hr_v kb_m kc_m
    (try clear kc_r)
    (try clear kb_r)
    cases ok
    ·have HR9 : Hid (R = (l, false)) := HEE.out
     go_wp2_with fail
     refine bodyPost_ret (v := .tuple #[.slice A1 l.length c1, .bool false]) ?_ rfl ?_
     ·simp [results, Tryz.results102, go_sem]
     ·rw [HR9.out]
      exact ⟨A1, c1, rfl, (Row2.mono (lo := W1.heap.size) (hi := w1.heap.size) (hi' := w1.heap.size) (by exact rowT) (by omega) (Nat.le_refl _)).1, by exact tacT⟩
    ·go_wp2_with fail
     have hr_o : Row2 WA W7.heap.size WA.heap.size 69 3 A6 r.length c6 (t3s r) := ⟨HO6.out, fun g hg => (HO6.out.lt g hg).2⟩
     refine (H3q.out _ _ _ _ (Rd.of_own HO6.out)).mono ?_
     rintro e WB ⟨rfl, hb⟩
     replace hB := hB.trans (Below.mono hb hB.size)
     have hz_WB : WA.heap.size ≤ WB.heap.size := Below.size hb
     replace hr_s := Row2.below hr_s hb (by omega)
     replace hr_o := Row2.below hr_o hb (by omega)
     clear hb
     cases hok : rightsOk r
     ·have HR9 : Hid (R = (l, false)) := by have h9 := HEE.out; rw [hok] at h9; exact h9
      clear hok
      go_wp2_with fail
      refine bodyPost_ret (v := .tuple #[.slice A1 l.length c1, .bool false]) ?_ rfl ?_
      ·simp [results, Tryz.results102, go_sem]
      ·rw [HR9.out]
       exact ⟨A1, c1, rfl, (Row2.mono (lo := W1.heap.size) (hi := w1.heap.size) (hi' := w1.heap.size) (by exact rowT) (by omega) (Nat.le_refl _)).1, by exact tacT⟩
     ·have HR9 : Hid (R = (r, true)) := by have h9 := HEE.out; rw [hok] at h9; exact h9
      clear hok
      go_wp2_with fail
      refine bodyPost_ret (v := .tuple #[.slice A6 r.length c6, .bool true]) ?_ rfl ?_
      ·simp [results, Tryz.results102, go_sem]
      ·rw [HR9.out]
       exact ⟨A6, c6, rfl, (Row2.mono (lo := W7.heap.size) (hi := WA.heap.size) (hi' := WA.heap.size) (by exact rowT) (by omega) (Nat.le_refl _)).1, by exact tacT⟩
   ·obtain hq9 : q = l.set k ⟨f, r1, r2⟩ := by have h9 := HCUT.out; rw [if_neg hr0] at h9; exact h9
    have hqn : q.length = l.length := by rw [hq9, List.length_set]
    have hr0' : (r1 == 0) = false := by simpa using hr0
    rw [HXF.out, ← hq9] at hr_v
    have HQN := Lib.hid hqn
    clear hq9 hqn
    go_wp2_with fail
    refine (HAD.out _ _ _ _ _ HQN.out hr_v.1 (by omega)).mono ?_
    rintro e WA ⟨A6, c6, r, ok, rfl, hIs, ho6, hg6⟩
    replace hg6 : W9.grownBy WA (some g5) := hg6
    replace hr_s := Row2.chg hr_s (Row2.wrote' hr_v hg6) (.inl (by omega))
    replace hB := Chg.below hB (Row2.wrote' hr_v hg6) (by omega) (by omega)
    have HEE := Lib.hid (HEND.out r ok hIs)
    have HO6 := Lib.hid ho6
    have hzA := hg6.size
    clear hIs ho6 hg6 hr_v kb_m kc_m
    (try clear kc_r)
    (try clear kb_r)
    cases ok
    ·have HR9 : Hid (R = (l, false)) := HEE.out
     go_wp2_with fail
     refine bodyPost_ret (v := .tuple #[.slice A1 l.length c1, .bool false]) ?_ rfl ?_
     ·simp [results, Tryz.results102, go_sem]
     ·rw [HR9.out]
      exact ⟨A1, c1, rfl, (Row2.mono (lo := W1.heap.size) (hi := w1.heap.size) (hi' := w1.heap.size) (by exact rowT) (by omega) (Nat.le_refl _)).1, by exact tacT⟩
    ·go_wp2_with fail
     have hr_o : Row2 WA W7.heap.size WA.heap.size 69 3 A6 r.length c6 (t3s r) := ⟨HO6.out, fun g hg => (HO6.out.lt g hg).2⟩
     refine (H3q.out _ _ _ _ (Rd.of_own HO6.out)).mono ?_
     rintro e WB ⟨rfl, hb⟩
     replace hB := hB.trans (Below.mono hb hB.size)
     have hz_WB : WA.heap.size ≤ WB.heap.size := Below.size hb
     replace hr_s := Row2.below hr_s hb (by omega)
     replace hr_o := Row2.below hr_o hb (by omega)
     clear hb
     cases hok : rightsOk r
     ·have HR9 : Hid (R = (l, false)) := by have h9 := HEE.out; rw [hok] at h9; exact h9
      clear hok
      go_wp2_with fail
      refine bodyPost_ret (v := .tuple #[.slice A1 l.length c1, .bool false]) ?_ rfl ?_
      ·simp [results, Tryz.results102, go_sem]
      ·rw [HR9.out]
       exact ⟨A1, c1, rfl, (Row2.mono (lo := W1.heap.size) (hi := w1.heap.size) (hi' := w1.heap.size) (by exact rowT) (by omega) (Nat.le_refl _)).1, by exact tacT⟩
     ·have HR9 : Hid (R = (r, true)) := by have h9 := HEE.out; rw [hok] at h9; exact h9
      clear hok
      go_wp2_with fail
      refine bodyPost_ret (v := .tuple #[.slice A6 r.length c6, .bool true]) ?_ rfl ?_
      ·simp [results, Tryz.results102, go_sem]
      ·rw [HR9.out]
       exact ⟨A6, c6, rfl, (Row2.mono (lo := W7.heap.size) (hi := WA.heap.size) (hi' := WA.heap.size) (by exact rowT) (by omega) (Nat.le_refl _)).1, by exact tacT⟩
theorem SellShare_any (A : Option Addr) (c : Nat) (l : List T3) (f t a b : Int) (w : World) (h : RdT w w.heap.size A c l) (hs : l.length ≤ 1048576) :
  Calls Tryz.prog 102 #[.slice A l.length c, .int .i64 f, .int .i64 t, .agg #[.int .i64 a, .int .i64 b]] w (SellRet (sellF l f t a b) w) := by
 cases g1 : rightsOk l
 ·rw [sellG_no (by rw [g1]; simp)]; exact SellShare_no1 A c l f t a b w h hs g1
 rcases rightAt_pos (rights_up g1) f with ⟨g2, h2, _⟩ | ⟨g2, h2, x, gx, gf⟩
 ·rw [sellG_no (by rw [h2]; simp)]; exact SellShare_no2 A c l f t a b w h hs g1 g2
 by_cases g3 : f = t
 ·rw [sellG_no (by simp [g3])]; exact SellShare_no3 A c l f t a b w h hs g1 _ g2 g3
 cases g4 : inB t 1 999
 ·rw [sellG_no (by rw [g4]; simp)]; exact SellShare_no4 A c l f t a b w h hs g1 _ g2 g3 g4
 cases g5 : fracOk a b
 ·rw [sellG_no (by rw [g5]; simp)]; exact SellShare_no5 A c l f t a b w h hs g1 _ g2 g3 g4 g5
 by_cases g6 : b < a
 ·rw [sellG_no (by intro h9; omega)]; exact SellShare_no6 A c l f t a b w h hs g1 _ g2 g3 g4 g5 g6
 have gs : shareOf l f = (x.y, x.z) := (shareOf_at (rights_up g1) gx gf).1
 obtain ⟨u1, u2, mok, hm⟩ : ∃ u1 u2 mok, mulF x.y x.z a b = (u1, u2, mok) := ⟨_, _, _, rfl⟩
 obtain ⟨r1, r2, rok, hr⟩ : ∃ r1 r2 rok, mulF x.y x.z (b - a) b = (r1, r2, rok) := ⟨_, _, _, rfl⟩
 cases mok
 ·exact SellShare_m A c l f t a b w h hs g1 _ g2 g3 g4 g5 (by omega) x gx gf u1 u2 hm gs
 cases rok
 ·exact SellShare_r A c l f t a b w h hs g1 _ g2 g3 g4 g5 (by omega) x gx gf u1 u2 hm r1 r2 hr gs
 ·exact SellShare_y A c l f t a b w h hs g1 _ g2 g3 g4 g5 (by omega) x gx gf u1 u2 hm r1 r2 hr gs
end
end Go.Proofs.YtpmmjhpmheooeaaGreatDoor
