/- Texts of the proof, joined: To3, Mark3, To3R, Rights. -/
import Derived.Test.YtpmmjhpmheooeaaGreatDoorP0
import Derived.Deep.RegionHeld3
import Derived.Test.YtpmmjhpmheooeaaGreatDoorP1
import Derived.Test.YtpmmjhpmheooeaaGreatDoorP2
namespace Go.Proofs.YtpmmjhpmheooeaaGreatDoor
set_option linter.unusedSimpArgs false
set_option linter.unusedVariables false
section
open Go.RowKit
/-- top, bottom, ok of a sum of shares (z: bottom, y: top, x: owner) -/
def sumF : List T3 → Int → Int → Int × Int × Bool
 | [], t, b => (t, b, true)
 |e :: es, t, b => if (addF t b e.y e.z).2.2 then sumF es (addF t b e.y e.z).1 (addF t b e.y e.z).2.1 else (0, 0, false)
theorem sumF_nil (t b : Int) : sumF [] t b = (t, b, true) := rfl
theorem sumF_yes {e : T3} {es : List T3} {t b t' b' : Int} (h : addF t b e.y e.z = (t', b', true)) : sumF (e :: es) t b = sumF es t' b' := by
 show (if (addF t b e.y e.z).2.2 then sumF es (addF t b e.y e.z).1 (addF t b e.y e.z).2.1 else (0, 0, false)) = _
 rw [h]; rfl
theorem sumF_no {e : T3} {es : List T3} {t b t' b' : Int} (h : addF t b e.y e.z = (t', b', false)) : sumF (e :: es) t b = (0, 0, false) := by
 show (if (addF t b e.y e.z).2.2 then sumF es (addF t b e.y e.z).1 (addF t b e.y e.z).2.1 else (0, 0, false)) = _
 rw [h]; rfl
def sumShares (l : List T3) : Int × Int × Bool := if l.length ≤ 12 then sumF l 0 1 else (0, 0, false)
set_option maxHeartbeats 800000 in
theorem SumOfShares_any (A : Option Addr) (c : Nat) (l : List T3) (w : World) (h : RdT w w.heap.size A c l) :
  Calls Tryz.prog 100 #[.slice A l.length c] w fun e w' => e = frRet (sumShares l) ∧ Below w.heap.size w w' := by
 obtain ⟨hl, hm⟩ := h.le
 have hB := Below.refl w.heap.size w
 by_cases h12 : (12 : Int) < l.length
 ·have HE : Hid (sumShares l = (0, 0, false)) := by unfold sumShares; rw [if_neg (by omega)]; rfl
  go_enter Tryz.func100, Tryz.ntmps100
  go_wp2_with fail
  refine bodyPost_ret (v := .tuple #[.agg #[.int .i64 0, .int .i64 0], .bool false]) ?_ rfl ?_
  ·simp [results, Tryz.results100, go_sem]
  ·exact ⟨by rw [HE.out]; rfl, by exact tacT⟩
 have e0 : sumShares l = sumF l 0 1 := by unfold sumShares; rw [if_pos (by omega)]
 obtain ⟨R, hR⟩ : ∃ R, R = sumF l 0 1 := ⟨_, rfl⟩
 have HR := Lib.hid hR
 have HE : Hid (sumShares l = R) := e0.trans hR.symm
 clear e0 hR
 go_enter Tryz.func100, Tryz.ntmps100
 go_wp2_with fail
 go_loopw [15] (fun i wr => ∃ (k : Nat) (t b : Int), k ≤ l.length ∧ i = .int .i64 k ∧ Blk wr w.heap.size 67 #[.int .i64 0, .int .i64 0] ∧ Blk wr (w.heap.size + 1) 67 #[.int .i64 t, .int .i64 b] ∧ Below w.heap.size w wr ∧ Hid (sumF (l.drop k) t b = R)) (fun i _ => l.length - (intOf i).toNat)
 case atStart => exact ⟨0, 0, 1, Nat.zero_le _, rfl, by exact blkT, by exact blkT, by exact tacT, HR.out.symm⟩
 case round =>
  obtain ⟨k, t, b, hk, rfl, kb_r, kb_s, hB, HS⟩ := hrel
  have kc_r := kb_r.cells
  have kf_r := kb_r.frozens
  have kc_s := kb_s.cells
  have kf_s := kb_s.frozens
  have hl_r := kb_r.lt
  have hl_s := kb_s.lt
  by_cases hlt : k < l.length
  ·obtain ⟨bb, o, x, rfl, hbb, hx, e0, e1, e2⟩ := h.at_ hlt
   have f0 : wr.cell? ⟨bb, o + k * 3, none⟩ = some (.int .i64 x.x) := (hB.cell (p := ⟨bb, _, none⟩) hbb).trans e0
   have f1 : wr.cell? ⟨bb, o + k * 3 + 1, none⟩ = some (.int .i64 x.y) := (hB.cell (p := ⟨bb, _, none⟩) hbb).trans e1
   have f2 : wr.cell? ⟨bb, o + k * 3 + 2, none⟩ = some (.int .i64 x.z) := (hB.cell (p := ⟨bb, _, none⟩) hbb).trans e2
   clear e0 e1 e2
   obtain ⟨t', b', ok, ha⟩ : ∃ t' b' ok, addF t b x.y x.z = (t', b', ok) := ⟨_, _, _, rfl⟩
   have HC : Hid (∀ W, Calls Tryz.prog 126 #[.agg #[.int .i64 t, .int .i64 b], .agg #[.int .i64 x.y, .int .i64 x.z]] W fun e w' => e = frRet (t', b', ok) ∧ Below W.heap.size W w') := fun W => by rw [← ha]; exact AddFractions_any _ _ _ _ W
   cases ok
   ·have HN : Hid (R = (0, 0, false)) := by rw [← HS.out, drop_cons hx, sumF_no ha]; rfl
    clear ha hx HS
    go_wp2_with fail
    first | refine name_world ?_ | refine name_wp ?_
    intro W1 hW
    replace hB : Below w.heap.size w W1 := by rw [hW]; exact tacT
    have hz_W1 : wr.heap.size ≤ W1.heap.size := by rw [hW]; exact sT
    replace kb_r : Blk W1 (w.heap.size) 67 #[.int .i64 0, .int .i64 0] := by rw [hW]; exact blkT
    have hLW1_r := kb_r.lt
    replace kb_s : Blk W1 (w.heap.size + 1) 67 #[.int .i64 t, .int .i64 b] := by rw [hW]; exact blkT
    have hLW1_s := kb_s.lt
    try clear kc_r kf_r
    try clear kc_s kf_s
    clear hW
    refine (HC.out _).mono ?_
    rintro e w1 ⟨rfl, hb⟩
    unfold frRet
    replace hB := hB.trans (Below.mono hb hB.size)
    have hz_w1 : W1.heap.size ≤ w1.heap.size := Below.size hb
    replace kb_r := kb_r.mv hb; obtain ⟨kb_r, kc_r, kf_r, hl_r, hn_r⟩ := kb_r
    replace kb_s := kb_s.mv hb; obtain ⟨kb_s, kc_s, kf_s, hl_s, hn_s⟩ := kb_s
    clear hb
    go_wp2_with fail
    refine bodyPost_ret (v := .tuple #[.agg #[.int .i64 0, .int .i64 0], .bool false]) ?_ rfl ?_
    ·simp [results, Tryz.results100, go_sem, kc_r, kc_s]
    ·exact ⟨by rw [HE.out, HN.out]; rfl, by exact tacT⟩
   ·have HN : Hid (sumF (l.drop (k + 1)) t' b' = R) := by rw [← HS.out, drop_cons hx, sumF_yes ha]; rfl
    clear ha hx HS
    go_wp2_with fail
    first | refine name_world ?_ | refine name_wp ?_
    intro W1 hW
    replace hB : Below w.heap.size w W1 := by rw [hW]; exact tacT
    have hz_W1 : wr.heap.size ≤ W1.heap.size := by rw [hW]; exact sT
    replace kb_r : Blk W1 (w.heap.size) 67 #[.int .i64 0, .int .i64 0] := by rw [hW]; exact blkT
    have hLW1_r := kb_r.lt
    replace kb_s : Blk W1 (w.heap.size + 1) 67 #[.int .i64 t, .int .i64 b] := by rw [hW]; exact blkT
    have hLW1_s := kb_s.lt
    try clear kc_r kf_r
    try clear kc_s kf_s
    clear hW
    refine (HC.out _).mono ?_
    rintro e w1 ⟨rfl, hb⟩
    unfold frRet
    replace hB := hB.trans (Below.mono hb hB.size)
    have hz_w1 : W1.heap.size ≤ w1.heap.size := Below.size hb
    replace kb_r := kb_r.mv hb; obtain ⟨kb_r, kc_r, kf_r, hl_r, hn_r⟩ := kb_r
    replace kb_s := kb_s.mv hb; obtain ⟨kb_s, kc_s, kf_s, hl_s, hn_s⟩ := kb_s
    clear hb
    go_wp2_with fail
    go_roundw
    case rel => exact ⟨k + 1, t', b', by omega, by go_num, by exact blkT, by exact blkT, by exact tacT, HN⟩
    case measure => simp [intOf]; omega
  ·have e1 := HS.out
   rw [drop_end hlt, sumF_nil] at e1
   have H1 := Lib.hid e1
   clear e1
   go_wp2_with fail
   refine bodyPost_ret (v := .tuple #[.agg #[.int .i64 t, .int .i64 b], .bool true]) ?_ rfl ?_
   ·simp [results, Tryz.results100, go_sem, kc_r, kc_s]
   ·exact ⟨by rw [HE.out, ← H1.out]; rfl, by exact tacT⟩
set_option maxHeartbeats 800000 in
theorem SumOfSharesS_any (A : Option Addr) (c : Nat) (l : List T3) (w : World) (h : RdT w w.heap.size A c l) :
  Calls Tryz.prog 109 #[.slice A l.length c] w fun e w' => e = frRet (sumShares l) ∧ Below w.heap.size w w' := by
 obtain ⟨hl, hm⟩ := h.le
 have hB := Below.refl w.heap.size w
 by_cases h12 : (12 : Int) < l.length
 ·have HE : Hid (sumShares l = (0, 0, false)) := by unfold sumShares; rw [if_neg (by omega)]; rfl
  go_enter Tryz.func109, Tryz.ntmps109
  go_wp2_with fail
  refine bodyPost_ret (v := .tuple #[.agg #[.int .i64 0, .int .i64 0], .bool false]) ?_ rfl ?_
  ·simp [results, Tryz.results109, go_sem]
  ·exact ⟨by rw [HE.out]; rfl, by exact tacT⟩
 have e0 : sumShares l = sumF l 0 1 := by unfold sumShares; rw [if_pos (by omega)]
 obtain ⟨R, hR⟩ : ∃ R, R = sumF l 0 1 := ⟨_, rfl⟩
 have HR := Lib.hid hR
 have HE : Hid (sumShares l = R) := e0.trans hR.symm
 clear e0 hR
 go_enter Tryz.func109, Tryz.ntmps109
 go_wp2_with fail
 go_loopw [5] (fun i wr => ∃ (k : Nat) (t b : Int), k ≤ l.length ∧ i = .int .i64 k ∧ Blk wr w.heap.size 67 #[.int .i64 0, .int .i64 0] ∧ Blk wr (w.heap.size + 1) 67 #[.int .i64 t, .int .i64 b] ∧ Below w.heap.size w wr ∧ Hid (sumF (l.drop k) t b = R)) (fun i _ => l.length - (intOf i).toNat)
 case atStart => exact ⟨0, 0, 1, Nat.zero_le _, rfl, by exact blkT, by exact blkT, by exact tacT, HR.out.symm⟩
 case round =>
  obtain ⟨k, t, b, hk, rfl, kb_r, kb_s, hB, HS⟩ := hrel
  have kc_r := kb_r.cells
  have kf_r := kb_r.frozens
  have kc_s := kb_s.cells
  have kf_s := kb_s.frozens
  have hl_r := kb_r.lt
  have hl_s := kb_s.lt
  by_cases hlt : k < l.length
  ·obtain ⟨bb, o, x, rfl, hbb, hx, e0, e1, e2⟩ := h.at_ hlt
   have f0 : wr.cell? ⟨bb, o + k * 3, none⟩ = some (.int .i64 x.x) := (hB.cell (p := ⟨bb, _, none⟩) hbb).trans e0
   have f1 : wr.cell? ⟨bb, o + k * 3 + 1, none⟩ = some (.int .i64 x.y) := (hB.cell (p := ⟨bb, _, none⟩) hbb).trans e1
   have f2 : wr.cell? ⟨bb, o + k * 3 + 2, none⟩ = some (.int .i64 x.z) := (hB.cell (p := ⟨bb, _, none⟩) hbb).trans e2
   clear e0 e1 e2
   have hlb : bb < wr.heap.size := by omega
   have hk0 : (0 : Int) ≤ (k : Int) := by omega
   have hk1 : (k : Int) < (l.length : Int) := by omega
   obtain ⟨t', b', ok, ha⟩ : ∃ t' b' ok, addF t b x.y x.z = (t', b', ok) := ⟨_, _, _, rfl⟩
   have HC : Hid (∀ W, Calls Tryz.prog 140 #[.agg #[.int .i64 t, .int .i64 b], .agg #[.int .i64 x.y, .int .i64 x.z]] W fun e w' => e = frRet (t', b', ok) ∧ Below W.heap.size W w') := fun W => by rw [← ha]; exact AddFractionsS_any _ _ _ _ W
   cases ok
   ·have HN : Hid (R = (0, 0, false)) := by rw [← HS.out, drop_cons hx, sumF_no ha]; rfl
    clear ha hx HS
    go_wp2_with fail
    go_region_held3 (fun w' => w'.cell? ⟨w.heap.size + 1, 0, none⟩ = some (.int .i64 t) ∧ w'.cell? ⟨w.heap.size + 1, 1, none⟩ = some (.int .i64 b) ∧ w'.cell? ⟨bb, o + k * 3 + 1, none⟩ = some (.int .i64 x.y) ∧ w'.cell? ⟨bb, o + k * 3 + 2, none⟩ = some (.int .i64 x.z)) (first | (with_reducible exact ⟨kc_s 0, kc_s 1, f1, f2⟩) | (refine ⟨?_, ?_, ?_, ?_⟩ <;> simp [go_sem, kc_s 0, kc_s 1, f1, f2, hlb, hl_s]; done) | (with_reducible exact ⟨y3_0, y3_1, y3_2, y3_3⟩) | (refine ⟨?_, ?_, ?_, ?_⟩ <;> simp [go_sem, y3_0, y3_1, y3_2, y3_3, hlb, hl_s, n3_0, l3_0, n3_1, l3_1, n3_2, l3_2, n3_3, l3_3]; done) | exact ⟨kc_s 0, kc_s 1, f1, f2⟩)
     (((go_at_call 140; refine (HC.out _).mono ?_; rintro e w3 ⟨rfl, hb3⟩; unfold frRet; have hB3 : Below w.heap.size w w3 := (by exact tacT); have hz3 : wr.heap.size ≤ w3.heap.size := (by have hzz := Below.size hb3; first | omega | (simp at hzz; omega)); have l3_0 : w.heap.size + 1 < w3.heap.size := (by omega); have n3_0 := Nat.ne_of_lt l3_0; have y3_0 : w3.cell? ⟨w.heap.size + 1, 0, none⟩ = some (.int .i64 t) := (Below.cell hb3 (p := ⟨w.heap.size + 1, 0, none⟩) (by first | (simp; done) | (simp; omega) | omega)).trans (by first | exact kc_s 0 | (simp [go_sem, kc_s 0, hlb, hl_s]; done)); have l3_1 : w.heap.size + 1 < w3.heap.size := (by omega); have n3_1 := Nat.ne_of_lt l3_1; have y3_1 : w3.cell? ⟨w.heap.size + 1, 1, none⟩ = some (.int .i64 b) := (Below.cell hb3 (p := ⟨w.heap.size + 1, 1, none⟩) (by first | (simp; done) | (simp; omega) | omega)).trans (by first | exact kc_s 1 | (simp [go_sem, kc_s 1, hlb, hl_s]; done)); have l3_2 : bb < w3.heap.size := (by omega); have n3_2 := Nat.ne_of_lt l3_2; have y3_2 : w3.cell? ⟨bb, o + k * 3 + 1, none⟩ = some (.int .i64 x.y) := (Below.cell hb3 (p := ⟨bb, o + k * 3 + 1, none⟩) (by first | (simp; done) | (simp; omega) | omega)).trans (by first | exact f1 | (simp [go_sem, f1, hlb, hl_s]; done)); have l3_3 : bb < w3.heap.size := (by omega); have n3_3 := Nat.ne_of_lt l3_3; have y3_3 : w3.cell? ⟨bb, o + k * 3 + 2, none⟩ = some (.int .i64 x.z) := (Below.cell hb3 (p := ⟨bb, o + k * 3 + 2, none⟩) (by first | (simp; done) | (simp; omega) | omega)).trans (by first | exact f2 | (simp [go_sem, f2, hlb, hl_s]; done)); have kb3_r : Blk w3 (w.heap.size) 67 #[.int .i64 0, .int .i64 0] := Blk.below (by exact blkT) hb3 (by first | (simp; done) | (simp; omega) | omega); have kc3_r := kb3_r.cells; have kf3_r := kb3_r.frozens; have hl3_r := kb3_r.lt; have hn3_r := Nat.ne_of_lt hl3_r; have kb3_s : Blk w3 (w.heap.size + 1) 67 #[.int .i64 t, .int .i64 b] := Blk.below (by exact blkT) hb3 (by first | (simp; done) | (simp; omega) | omega); have kc3_s := kb3_s.cells; have kf3_s := kb3_s.frozens; have hl3_s := kb3_s.lt; have hn3_s := Nat.ne_of_lt hl3_s; try (have kb9 : Blk w3 wr.heap.size 67 #[.int .i64 0, .int .i64 0] := Blk.below (by exact blkT) hb3 (by exact sT); have kc9 := kb9.cells; have kf9 := kb9.frozens; have hl9 := kb9.lt; have hn9 := Nat.ne_of_lt hl9; have m0 : w.heap.size + 1 ≠ wr.heap.size := (by omega); have k0 : wr.heap.size ≠ w.heap.size + 1 := (by omega); have m1 : bb ≠ wr.heap.size := (by omega); have k1 : wr.heap.size ≠ bb := (by omega); have m2 : w.heap.size ≠ wr.heap.size := (by omega); have k2 : wr.heap.size ≠ w.heap.size := (by omega)))))
    all_goals
     go_wp2_with fail
     refine bodyPost_ret (v := .tuple #[.agg #[.int .i64 0, .int .i64 0], .bool false]) ?_ rfl ?_
     ·simp [results, Tryz.results109, go_sem, kc3_r, kc3_s, hn3_r, hn3_s, hl3_r, hl3_s]
     ·exact ⟨by rw [HE.out, HN.out]; rfl, by exact tacT⟩
   ·have HN : Hid (sumF (l.drop (k + 1)) t' b' = R) := by rw [← HS.out, drop_cons hx, sumF_yes ha]; rfl
    clear ha hx HS
    go_wp2_with fail
    go_region_held3 (fun w' => w'.cell? ⟨w.heap.size + 1, 0, none⟩ = some (.int .i64 t) ∧ w'.cell? ⟨w.heap.size + 1, 1, none⟩ = some (.int .i64 b) ∧ w'.cell? ⟨bb, o + k * 3 + 1, none⟩ = some (.int .i64 x.y) ∧ w'.cell? ⟨bb, o + k * 3 + 2, none⟩ = some (.int .i64 x.z)) (first | (with_reducible exact ⟨kc_s 0, kc_s 1, f1, f2⟩) | (refine ⟨?_, ?_, ?_, ?_⟩ <;> simp [go_sem, kc_s 0, kc_s 1, f1, f2, hlb, hl_s]; done) | (with_reducible exact ⟨y3_0, y3_1, y3_2, y3_3⟩) | (refine ⟨?_, ?_, ?_, ?_⟩ <;> simp [go_sem, y3_0, y3_1, y3_2, y3_3, hlb, hl_s, n3_0, l3_0, n3_1, l3_1, n3_2, l3_2, n3_3, l3_3]; done) | exact ⟨kc_s 0, kc_s 1, f1, f2⟩)
     (((go_at_call 140; refine (HC.out _).mono ?_; rintro e w3 ⟨rfl, hb3⟩; unfold frRet; have hB3 : Below w.heap.size w w3 := (by exact tacT); have hz3 : wr.heap.size ≤ w3.heap.size := (by have hzz := Below.size hb3; first | omega | (simp at hzz; omega)); have l3_0 : w.heap.size + 1 < w3.heap.size := (by omega); have n3_0 := Nat.ne_of_lt l3_0; have y3_0 : w3.cell? ⟨w.heap.size + 1, 0, none⟩ = some (.int .i64 t) := (Below.cell hb3 (p := ⟨w.heap.size + 1, 0, none⟩) (by first | (simp; done) | (simp; omega) | omega)).trans (by first | exact kc_s 0 | (simp [go_sem, kc_s 0, hlb, hl_s]; done)); have l3_1 : w.heap.size + 1 < w3.heap.size := (by omega); have n3_1 := Nat.ne_of_lt l3_1; have y3_1 : w3.cell? ⟨w.heap.size + 1, 1, none⟩ = some (.int .i64 b) := (Below.cell hb3 (p := ⟨w.heap.size + 1, 1, none⟩) (by first | (simp; done) | (simp; omega) | omega)).trans (by first | exact kc_s 1 | (simp [go_sem, kc_s 1, hlb, hl_s]; done)); have l3_2 : bb < w3.heap.size := (by omega); have n3_2 := Nat.ne_of_lt l3_2; have y3_2 : w3.cell? ⟨bb, o + k * 3 + 1, none⟩ = some (.int .i64 x.y) := (Below.cell hb3 (p := ⟨bb, o + k * 3 + 1, none⟩) (by first | (simp; done) | (simp; omega) | omega)).trans (by first | exact f1 | (simp [go_sem, f1, hlb, hl_s]; done)); have l3_3 : bb < w3.heap.size := (by omega); have n3_3 := Nat.ne_of_lt l3_3; have y3_3 : w3.cell? ⟨bb, o + k * 3 + 2, none⟩ = some (.int .i64 x.z) := (Below.cell hb3 (p := ⟨bb, o + k * 3 + 2, none⟩) (by first | (simp; done) | (simp; omega) | omega)).trans (by first | exact f2 | (simp [go_sem, f2, hlb, hl_s]; done)); have kb3_r : Blk w3 (w.heap.size) 67 #[.int .i64 0, .int .i64 0] := Blk.below (by exact blkT) hb3 (by first | (simp; done) | (simp; omega) | omega); have kc3_r := kb3_r.cells; have kf3_r := kb3_r.frozens; have hl3_r := kb3_r.lt; have hn3_r := Nat.ne_of_lt hl3_r; have kb3_s : Blk w3 (w.heap.size + 1) 67 #[.int .i64 t, .int .i64 b] := Blk.below (by exact blkT) hb3 (by first | (simp; done) | (simp; omega) | omega); have kc3_s := kb3_s.cells; have kf3_s := kb3_s.frozens; have hl3_s := kb3_s.lt; have hn3_s := Nat.ne_of_lt hl3_s; try (have kb9 : Blk w3 wr.heap.size 67 #[.int .i64 0, .int .i64 0] := Blk.below (by exact blkT) hb3 (by exact sT); have kc9 := kb9.cells; have kf9 := kb9.frozens; have hl9 := kb9.lt; have hn9 := Nat.ne_of_lt hl9; have m0 : w.heap.size + 1 ≠ wr.heap.size := (by omega); have k0 : wr.heap.size ≠ w.heap.size + 1 := (by omega); have m1 : bb ≠ wr.heap.size := (by omega); have k1 : wr.heap.size ≠ bb := (by omega); have m2 : w.heap.size ≠ wr.heap.size := (by omega); have k2 : wr.heap.size ≠ w.heap.size := (by omega)))))
    all_goals
     go_wp2_with fail
     go_roundw
     case rel => exact ⟨k + 1, t', b', by omega, by go_num, by exact blkT, by exact blkT, by exact tacT, HN⟩
     case measure => simp [intOf]; omega
  ·have e1 := HS.out
   rw [drop_end hlt, sumF_nil] at e1
   have H1 := Lib.hid e1
   clear e1
   go_wp2_with fail
   refine bodyPost_ret (v := .tuple #[.agg #[.int .i64 t, .int .i64 b], .bool true]) ?_ rfl ?_
   ·simp [results, Tryz.results109, go_sem, kc_r, kc_s]
   ·exact ⟨by rw [HE.out, ← H1.out]; rfl, by exact tacT⟩
end
end Go.Proofs.YtpmmjhpmheooeaaGreatDoor
