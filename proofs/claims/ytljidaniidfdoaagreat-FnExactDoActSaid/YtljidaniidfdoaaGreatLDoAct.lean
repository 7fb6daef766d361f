/- The law FnExactDoAct answers true for every village and every act. No conditions. -/
import Derived.Test.YtljidaniidfdoaaGreatVill2
import Derived.Test.YtljidaniidfdoaaGreatDoActI
import Derived.Test.YtljidaniidfdoaaGreatDoActS
import Derived.Test.YtljidaniidfdoaaGreatKe
import Derived.Deep.RegionHeld3
import Derived.Test.YtljidaniidfdoaaGreatKa
namespace Go.Proofs.YtljidaniidfdoaaGreat
open Go.ChangeShapes Go.WideShapes Go.ChangeAt Go.RowKit
set_option maxRecDepth 20000
set_option maxHeartbeats 6400000 in
theorem walk_FnExactDoAct (w : World) (A0 : Option Addr) (c0 : Nat) (R0 : Option Addr) (d0 : Nat) (v0 : Vg) (h0_0 : RdT w w.heap.size A0 c0 v0.book.evs) (h0_1 : RdT w w.heap.size R0 d0 v0.rights) (x1 : Int) (y1 : Int) (z1 : Int) (h1_0 : I64 x1) (h1_1 : I64 y1) (h1_2 : I64 z1) :
    Calls Tryz.prog 3 #[(Vg.val v0 A0 c0 R0 d0), .agg #[.int .i64 x1, .int .i64 y1, .int .i64 z1]] w fun e w' => e = .returned (.bool true) ∧ Below w.heap.size w w' := by
  by_cases hbig0 : (1048576 : Int) < (v0.book.evs.length + v0.rights.length)
  · unfold Vg.val; go_enter Tryz.func3, Tryz.ntmps3
    go_wp2_with fail
    refine (szVillage_big A0 c0 R0 d0 v0 _ _ (by omega) (by omega) (by omega) (by have := h0_0.le; omega) (by have := h0_1.le; omega)).mono ?_
    rintro e w0' ⟨rfl, hb0'⟩
    go_wp2_with fail
    go_ret
    exact ⟨rfl, by exact tacT⟩
  have hs0 : (v0.book.evs.length + v0.rights.length) ≤ 1048576 := by omega
  obtain ⟨r1, hr_1⟩ : ∃ r, r = (doAct v0 x1 y1 z1).2 := ⟨_, rfl⟩
  have HR1 := Lib.hid hr_1; clear hr_1
  have hq1 : (r1 != r1) = false := by simp
  have hsl := doAct_len v0 x1 y1 z1
  have hB0 : Below w.heap.size w w := Below.refl _ _
  unfold Vg.val; go_enter Tryz.func3, Tryz.ntmps3
  go_wp2_with fail
  first | refine name_world ?_ | refine name_wp ?_
  intro W1 hW1
  have hp1 : Below w.heap.size w W1 := by rw [hW1]; repeat' (first | (with_reducible exact Below.refl _ _) | (with_reducible refine Below.alloc ?_ ?_ _) | (with_reducible refine Below.setCell ?_ ?_ _) | (with_reducible refine Below.drew ?_) | (simp; done) | (simp; omega))
  have kb1_0_1 : W1.cell? ⟨w.heap.size, 0, none⟩ = some (.int .i64 v0.book.room) := by rw [hW1]; simp [go_sem]
  have kb1_1_1 : W1.cell? ⟨w.heap.size, 1, none⟩ = some (.int .i64 v0.book.start) := by rw [hW1]; simp [go_sem]
  have kb1_2_1 : W1.cell? ⟨w.heap.size, 2, none⟩ = some (.slice A0 v0.book.evs.length c0) := by rw [hW1]; simp [go_sem]
  have kb1_3_1 : W1.cell? ⟨w.heap.size, 3, none⟩ = some (.int .i64 v0.book.level) := by rw [hW1]; simp [go_sem]
  have kb1_4_1 : W1.cell? ⟨w.heap.size, 4, none⟩ = some (.int .i64 v0.book.rained) := by rw [hW1]; simp [go_sem]
  have kb1_5_1 : W1.cell? ⟨w.heap.size, 5, none⟩ = some (.int .i64 v0.book.drunk) := by rw [hW1]; simp [go_sem]
  have kb1_6_1 : W1.cell? ⟨w.heap.size, 6, none⟩ = some (.int .i64 v0.book.lost) := by rw [hW1]; simp [go_sem]
  have kb1_7_1 : W1.cell? ⟨w.heap.size, 7, none⟩ = some (.slice R0 v0.rights.length d0) := by rw [hW1]; simp [go_sem]
  have hl_b1 : w.heap.size < W1.heap.size := by rw [hW1]; first | (simp; done) | (simp; omega)
  have kb2_0_1 : W1.cell? ⟨w.heap.size + 1, 0, none⟩ = some (.int .i64 x1) := by rw [hW1]; simp [go_sem]
  have kb2_1_1 : W1.cell? ⟨w.heap.size + 1, 1, none⟩ = some (.int .i64 y1) := by rw [hW1]; simp [go_sem]
  have kb2_2_1 : W1.cell? ⟨w.heap.size + 1, 2, none⟩ = some (.int .i64 z1) := by rw [hW1]; simp [go_sem]
  have hl_b2 : w.heap.size + 1 < W1.heap.size := by rw [hW1]; first | (simp; done) | (simp; omega)
  have hB1 := hB0.trans (hp1.mono hB0.size)
  have hz1 : w.heap.size ≤ W1.heap.size := hp1.size
  have HW1 := Lib.hid hW1; clear hW1
  refine (szVillage_ok A0 c0 R0 d0 v0 _ _ (by omega) (by omega)).mono ?_
  rintro e w1 ⟨rfl, hb1⟩
  try simp only [Vg.val]
  have kb1_0_1' := (hb1.cell (p := ⟨w.heap.size, 0, none⟩) (by show w.heap.size < _; omega)).trans kb1_0_1
  have kb1_1_1' := (hb1.cell (p := ⟨w.heap.size, 1, none⟩) (by show w.heap.size < _; omega)).trans kb1_1_1
  have kb1_2_1' := (hb1.cell (p := ⟨w.heap.size, 2, none⟩) (by show w.heap.size < _; omega)).trans kb1_2_1
  have kb1_3_1' := (hb1.cell (p := ⟨w.heap.size, 3, none⟩) (by show w.heap.size < _; omega)).trans kb1_3_1
  have kb1_4_1' := (hb1.cell (p := ⟨w.heap.size, 4, none⟩) (by show w.heap.size < _; omega)).trans kb1_4_1
  have kb1_5_1' := (hb1.cell (p := ⟨w.heap.size, 5, none⟩) (by show w.heap.size < _; omega)).trans kb1_5_1
  have kb1_6_1' := (hb1.cell (p := ⟨w.heap.size, 6, none⟩) (by show w.heap.size < _; omega)).trans kb1_6_1
  have kb1_7_1' := (hb1.cell (p := ⟨w.heap.size, 7, none⟩) (by show w.heap.size < _; omega)).trans kb1_7_1
  have kb2_0_1' := (hb1.cell (p := ⟨w.heap.size + 1, 0, none⟩) (by show w.heap.size + 1 < _; omega)).trans kb2_0_1
  have kb2_1_1' := (hb1.cell (p := ⟨w.heap.size + 1, 1, none⟩) (by show w.heap.size + 1 < _; omega)).trans kb2_1_1
  have kb2_2_1' := (hb1.cell (p := ⟨w.heap.size + 1, 2, none⟩) (by show w.heap.size + 1 < _; omega)).trans kb2_2_1
  have hB1' := hB1.trans (hb1.mono hB1.size)
  have hz1' : W1.heap.size ≤ w1.heap.size := hb1.size
  have hl_b1_1' : w.heap.size < w1.heap.size := by omega
  have hl_b2_1' : w.heap.size + 1 < w1.heap.size := by omega
  clear kb1_0_1 kb1_1_1 kb1_2_1 kb1_3_1 kb1_4_1 kb1_5_1 kb1_6_1 kb1_7_1 kb2_0_1 kb2_1_1 kb2_2_1
  go_upto_region 5 with fail
  first | refine name_world ?_ | refine name_wp ?_
  intro W2 hW2
  have hp2 : Below w1.heap.size w1 W2 := by rw [hW2]; repeat' (first | (with_reducible exact Below.refl _ _) | (with_reducible refine Below.alloc ?_ ?_ _) | (with_reducible refine Below.setCell ?_ ?_ _) | (with_reducible refine Below.drew ?_) | (simp; done) | (simp; omega))
  have kb1_0_2 := (hp2.cell (p := ⟨w.heap.size, 0, none⟩) (by show w.heap.size < _; omega)).trans kb1_0_1'
  have kb1_1_2 := (hp2.cell (p := ⟨w.heap.size, 1, none⟩) (by show w.heap.size < _; omega)).trans kb1_1_1'
  have kb1_2_2 := (hp2.cell (p := ⟨w.heap.size, 2, none⟩) (by show w.heap.size < _; omega)).trans kb1_2_1'
  have kb1_3_2 := (hp2.cell (p := ⟨w.heap.size, 3, none⟩) (by show w.heap.size < _; omega)).trans kb1_3_1'
  have kb1_4_2 := (hp2.cell (p := ⟨w.heap.size, 4, none⟩) (by show w.heap.size < _; omega)).trans kb1_4_1'
  have kb1_5_2 := (hp2.cell (p := ⟨w.heap.size, 5, none⟩) (by show w.heap.size < _; omega)).trans kb1_5_1'
  have kb1_6_2 := (hp2.cell (p := ⟨w.heap.size, 6, none⟩) (by show w.heap.size < _; omega)).trans kb1_6_1'
  have kb1_7_2 := (hp2.cell (p := ⟨w.heap.size, 7, none⟩) (by show w.heap.size < _; omega)).trans kb1_7_1'
  have kb2_0_2 := (hp2.cell (p := ⟨w.heap.size + 1, 0, none⟩) (by show w.heap.size + 1 < _; omega)).trans kb2_0_1'
  have kb2_1_2 := (hp2.cell (p := ⟨w.heap.size + 1, 1, none⟩) (by show w.heap.size + 1 < _; omega)).trans kb2_1_1'
  have kb2_2_2 := (hp2.cell (p := ⟨w.heap.size + 1, 2, none⟩) (by show w.heap.size + 1 < _; omega)).trans kb2_2_1'
  have hB2 := hB1'.trans (hp2.mono hB1'.size)
  have hz2 : w1.heap.size ≤ W2.heap.size := hp2.size
  have hl_b1_2 : w.heap.size < W2.heap.size := by omega
  have hl_b2_2 : w.heap.size + 1 < W2.heap.size := by omega
  have HW2 := Lib.hid hW2; clear hW2
  have hk2 : ∀ X : World, Below W2.heap.size W2 X → X.cell? ⟨w.heap.size, 0, none⟩ = some (.int .i64 v0.book.room) ∧ X.cell? ⟨w.heap.size, 1, none⟩ = some (.int .i64 v0.book.start) ∧ X.cell? ⟨w.heap.size, 2, none⟩ = some (.slice A0 v0.book.evs.length c0) ∧ X.cell? ⟨w.heap.size, 3, none⟩ = some (.int .i64 v0.book.level) ∧ X.cell? ⟨w.heap.size, 4, none⟩ = some (.int .i64 v0.book.rained) ∧ X.cell? ⟨w.heap.size, 5, none⟩ = some (.int .i64 v0.book.drunk) ∧ X.cell? ⟨w.heap.size, 6, none⟩ = some (.int .i64 v0.book.lost) ∧ X.cell? ⟨w.heap.size, 7, none⟩ = some (.slice R0 v0.rights.length d0) ∧ X.cell? ⟨w.heap.size + 1, 0, none⟩ = some (.int .i64 x1) ∧ X.cell? ⟨w.heap.size + 1, 1, none⟩ = some (.int .i64 y1) ∧ X.cell? ⟨w.heap.size + 1, 2, none⟩ = some (.int .i64 z1) := fun X hX => ⟨(Below.cell hX (p := ⟨w.heap.size, 0, none⟩) (by show w.heap.size < W2.heap.size; omega)).trans kb1_0_2, (Below.cell hX (p := ⟨w.heap.size, 1, none⟩) (by show w.heap.size < W2.heap.size; omega)).trans kb1_1_2, (Below.cell hX (p := ⟨w.heap.size, 2, none⟩) (by show w.heap.size < W2.heap.size; omega)).trans kb1_2_2, (Below.cell hX (p := ⟨w.heap.size, 3, none⟩) (by show w.heap.size < W2.heap.size; omega)).trans kb1_3_2, (Below.cell hX (p := ⟨w.heap.size, 4, none⟩) (by show w.heap.size < W2.heap.size; omega)).trans kb1_4_2, (Below.cell hX (p := ⟨w.heap.size, 5, none⟩) (by show w.heap.size < W2.heap.size; omega)).trans kb1_5_2, (Below.cell hX (p := ⟨w.heap.size, 6, none⟩) (by show w.heap.size < W2.heap.size; omega)).trans kb1_6_2, (Below.cell hX (p := ⟨w.heap.size, 7, none⟩) (by show w.heap.size < W2.heap.size; omega)).trans kb1_7_2, (Below.cell hX (p := ⟨w.heap.size + 1, 0, none⟩) (by show w.heap.size + 1 < W2.heap.size; omega)).trans kb2_0_2, (Below.cell hX (p := ⟨w.heap.size + 1, 1, none⟩) (by show w.heap.size + 1 < W2.heap.size; omega)).trans kb2_1_2, (Below.cell hX (p := ⟨w.heap.size + 1, 2, none⟩) (by show w.heap.size + 1 < W2.heap.size; omega)).trans kb2_2_2⟩
  have HK2 := Lib.hid hk2; clear hk2
  clear kb1_0_1' kb1_1_1' kb1_2_1' kb1_3_1' kb1_4_1' kb1_5_1' kb1_6_1' kb1_7_1' kb2_0_1' kb2_1_1' kb2_2_1'
  (try simp only [Int.natCast_add])
  refine name_act ?_
  intro a0 ha0
  replace ha0 := Lib.hid ha0
  refine wp_region_inv (by kernel_rfl) (by kernel_rfl) (fun d a w' => ∃ (u22 u23 u24 u25 u26 u21 u27 u28 u6 u7 : Value) (Aq1 : Option Addr) (cq1 : Nat) (Rq1 : Option Addr) (dq1 : Nat) (Ar0 : Option Addr) (cr0 : Nat) (Rr0 : Option Addr) (dr0 : Nat) (lo0 : Nat) (hi0 : Nat) (lo1 : Nat) (hi1 : Nat) (gL : Nat), a = ((((((((((a0.put (some 22) u22).put (some 23) u23).put (some 24) u24).put (some 25) u25).put (some 26) u26).put (some 21) u21).put (some 27) u27).put (some 28) u28).put (some 6) u6).put (some 7) u7) ∧ Hid (Below W2.heap.size W2 w') ∧ Hid (d 0 = true → u22 = .agg #[.int .i64 v0.book.room, .int .i64 v0.book.start, .slice A0 v0.book.evs.length c0, .int .i64 v0.book.level, .int .i64 v0.book.rained, .int .i64 v0.book.drunk, .int .i64 v0.book.lost, .slice R0 v0.rights.length d0]) ∧ Hid (d 1 = true → d 4 = false → Rd w' w'.heap.size 3 Aq1 (v0.book.evs.length) cq1 (t3s v0.book.evs)) ∧ Hid (d 1 = true → d 4 = false → Rd w' w'.heap.size 3 Rq1 (v0.rights.length) dq1 (t3s v0.rights)) ∧ Hid (d 1 = true → u23 = .agg #[.int .i64 v0.book.room, .int .i64 v0.book.start, .slice Aq1 v0.book.evs.length cq1, .int .i64 v0.book.level, .int .i64 v0.book.rained, .int .i64 v0.book.drunk, .int .i64 v0.book.lost, .slice Rq1 v0.rights.length dq1]) ∧ Hid (d 2 = true → u24 = .agg #[.int .i64 x1, .int .i64 y1, .int .i64 z1]) ∧ Hid (d 3 = true → u25 = .agg #[.int .i64 x1, .int .i64 y1, .int .i64 z1]) ∧ Hid (d 4 = true → u26 = .tuple #[.agg #[.int .i64 (doAct v0 x1 y1 z1).1.book.room, .int .i64 (doAct v0 x1 y1 z1).1.book.start, .slice Ar0 (doAct v0 x1 y1 z1).1.book.evs.length cr0, .int .i64 (doAct v0 x1 y1 z1).1.book.level, .int .i64 (doAct v0 x1 y1 z1).1.book.rained, .int .i64 (doAct v0 x1 y1 z1).1.book.drunk, .int .i64 (doAct v0 x1 y1 z1).1.book.lost, .slice Rr0 (doAct v0 x1 y1 z1).1.rights.length dr0], .int .i64 r1]) ∧ Hid (d 5 = true → u21 = .tuple #[.agg #[.int .i64 (doAct v0 x1 y1 z1).1.book.room, .int .i64 (doAct v0 x1 y1 z1).1.book.start, .slice Ar0 (doAct v0 x1 y1 z1).1.book.evs.length cr0, .int .i64 (doAct v0 x1 y1 z1).1.book.level, .int .i64 (doAct v0 x1 y1 z1).1.book.rained, .int .i64 (doAct v0 x1 y1 z1).1.book.drunk, .int .i64 (doAct v0 x1 y1 z1).1.book.lost, .slice Rr0 (doAct v0 x1 y1 z1).1.rights.length dr0], .int .i64 r1]) ∧ Hid (d 6 = true → u27 = .agg #[.int .i64 (doAct v0 x1 y1 z1).1.book.room, .int .i64 (doAct v0 x1 y1 z1).1.book.start, .slice Ar0 (doAct v0 x1 y1 z1).1.book.evs.length cr0, .int .i64 (doAct v0 x1 y1 z1).1.book.level, .int .i64 (doAct v0 x1 y1 z1).1.book.rained, .int .i64 (doAct v0 x1 y1 z1).1.book.drunk, .int .i64 (doAct v0 x1 y1 z1).1.book.lost, .slice Rr0 (doAct v0 x1 y1 z1).1.rights.length dr0]) ∧ Hid (d 7 = true → u28 = .int .i64 r1) ∧ Hid (d 8 = true → u6 = .pointer (some ⟨gL, 0, none⟩)) ∧ Hid (d 10 = true → u7 = .int .i64 r1) ∧ Hid (d 4 = true → Row2 w' lo0 hi0 87 3 Ar0 ((doAct v0 x1 y1 z1).1.book.evs.length) cr0 (t3s (doAct v0 x1 y1 z1).1.book.evs) ∧ W2.heap.size ≤ lo0 ∧ hi0 ≤ w'.heap.size) ∧ Hid (d 4 = true → d 8 = true → gL < lo0 ∨ hi0 ≤ gL) ∧ Hid (d 4 = true → Row2 w' lo0 hi0 92 3 Rr0 ((doAct v0 x1 y1 z1).1.rights.length) dr0 (t3s (doAct v0 x1 y1 z1).1.rights) ∧ W2.heap.size ≤ lo0 ∧ hi0 ≤ w'.heap.size) ∧ Hid (d 4 = true → d 8 = true → gL < lo0 ∨ hi0 ≤ gL) ∧ Hid (d 8 = true → W2.heap.size ≤ gL ∧ gL < w'.heap.size) ∧ Hid (d 8 = true → d 9 = false → Blk w' gL 36 #[.int .i64 0, .int .i64 0, .slice none 0 0, .int .i64 0, .int .i64 0, .int .i64 0, .int .i64 0, .slice none 0 0]) ∧ Hid (d 9 = true → Blk w' gL 36 #[.int .i64 (doAct v0 x1 y1 z1).1.book.room, .int .i64 (doAct v0 x1 y1 z1).1.book.start, .slice Ar0 (doAct v0 x1 y1 z1).1.book.evs.length cr0, .int .i64 (doAct v0 x1 y1 z1).1.book.level, .int .i64 (doAct v0 x1 y1 z1).1.book.rained, .int .i64 (doAct v0 x1 y1 z1).1.book.drunk, .int .i64 (doAct v0 x1 y1 z1).1.book.lost, .slice Rr0 (doAct v0 x1 y1 z1).1.rights.length dr0])) ?_ ?_ ?_
  · refine ⟨undef, undef, undef, undef, undef, undef, undef, undef, undef, undef, none, 0, none, 0, none, 0, none, 0, 0, 0, 0, 0, 0, ?_, (Below.refl _ _).drew, ?_⟩
    · rw [ha0.out]; simp only [Act.put, List.setIfInBounds_toArray, List.set_cons_zero, List.set_cons_succ]
    · repeat' apply And.intro
      all_goals (show _ → _; intro h; cases h)
  · refine ⟨?_, ?_, ?_, ?_, ?_, ?_, ?_, ?_, ?_, ?_, ?_, trivial⟩
    · rintro d a w' ⟨u22, u23, u24, u25, u26, u21, u27, u28, u6, u7, Aq1, cq1, Rq1, dq1, Ar0, cr0, Rr0, dr0, lo0, hi0, lo1, hi1, gL, rfl, hC, f0, g1_0, g1_1, f1, f2, f3, f4, f5, f6, f7, f8, f10, m0, s0, m1, s1, ga, ka, ks⟩ hcl hd hdep K hK
      replace hcl := Lib.hid hcl; replace hdep := Lib.hid hdep; replace hK := Lib.hid hK; have hsz := hC.out.size
      have hS := HK2.out w' hC.out
      rw [ha0.out]
      simp only [Act.put, List.setIfInBounds_toArray, List.set_cons_zero, List.set_cons_succ]
      go_simp
      refine hK.out _ _ ⟨_, u23, u24, u25, u26, u21, u27, u28, u6, u7, Aq1, cq1, Rq1, dq1, Ar0, cr0, Rr0, dr0, lo0, hi0, lo1, hi1, gL, (by rw [ha0.out]; simp only [Act.put, List.setIfInBounds_toArray, List.set_cons_zero, List.set_cons_succ]), hC, (fun _ => rfl), g1_0, g1_1, f1, f2, f3, f4, f5, f6, f7, f8, f10, m0, s0, m1, s1, ga, ka, ks⟩
    · rintro d a w' ⟨u22, u23, u24, u25, u26, u21, u27, u28, u6, u7, Aq1, cq1, Rq1, dq1, Ar0, cr0, Rr0, dr0, lo0, hi0, lo1, hi1, gL, rfl, hC, f0, g1_0, g1_1, f1, f2, f3, f4, f5, f6, f7, f8, f10, m0, s0, m1, s1, ga, ka, ks⟩ hcl hd hdep K hK
      replace hcl := Lib.hid hcl; replace hdep := Lib.hid hdep; replace hK := Lib.hid hK; have hsz := hC.out.size
      obtain rfl := f0.out (dep_of hdep.out 0 (by kernel_rfl))
      rw [ha0.out]
      simp only [Act.put, List.setIfInBounds_toArray, List.set_cons_zero, List.set_cons_succ]
      go_simp; refine (toVillage_any A0 c0 R0 d0 v0 _ (Rd.later h0_0 (hB2.trans (hC.out.mono hB2.size))) (Rd.later h0_1 (hB2.trans (hC.out.mono hB2.size))) hs0).mono ?_; rintro e w3 ⟨Aq1', cq1', Rq1', dq1', rfl, hoq0, hoq1, hb⟩
      try simp only [Vg.val]
      refine hK.out _ _ ⟨_, _, u24, u25, u26, u21, u27, u28, u6, u7, Aq1', cq1', Rq1', dq1', Ar0, cr0, Rr0, dr0, lo0, hi0, lo1, hi1, gL, (by rw [ha0.out]; simp only [Act.put, List.setIfInBounds_toArray, List.set_cons_zero, List.set_cons_succ]), (hC.out.trans (hb.mono hsz)), f0, (fun _ _ => Rd.of_own hoq0), (fun _ _ => Rd.of_own hoq1), (fun _ => rfl), f2, f3, f4, f5, f6, f7, f8, f10, (fun h => ⟨Row2.below (m0.out h).1 hb (m0.out h).2.2, (m0.out h).2.1, Nat.le_trans (m0.out h).2.2 hb.size⟩), s0, (fun h => ⟨Row2.below (m1.out h).1 hb (m1.out h).2.2, (m1.out h).2.1, Nat.le_trans (m1.out h).2.2 hb.size⟩), s1, (fun h => ⟨(ga.out h).1, Nat.lt_of_lt_of_le (ga.out h).2 hb.size⟩), (fun h1 h2 => (ka.out h1 h2).below hb (ga.out h1).2), (fun h => (ks.out h).below hb (ks.out h).lt)⟩
    · rintro d a w' ⟨u22, u23, u24, u25, u26, u21, u27, u28, u6, u7, Aq1, cq1, Rq1, dq1, Ar0, cr0, Rr0, dr0, lo0, hi0, lo1, hi1, gL, rfl, hC, f0, g1_0, g1_1, f1, f2, f3, f4, f5, f6, f7, f8, f10, m0, s0, m1, s1, ga, ka, ks⟩ hcl hd hdep K hK
      replace hcl := Lib.hid hcl; replace hdep := Lib.hid hdep; replace hK := Lib.hid hK; have hsz := hC.out.size
      have hS := HK2.out w' hC.out
      rw [ha0.out]
      simp only [Act.put, List.setIfInBounds_toArray, List.set_cons_zero, List.set_cons_succ]
      go_simp
      refine hK.out _ _ ⟨u22, u23, _, u25, u26, u21, u27, u28, u6, u7, Aq1, cq1, Rq1, dq1, Ar0, cr0, Rr0, dr0, lo0, hi0, lo1, hi1, gL, (by rw [ha0.out]; simp only [Act.put, List.setIfInBounds_toArray, List.set_cons_zero, List.set_cons_succ]), hC, f0, g1_0, g1_1, f1, (fun _ => rfl), f3, f4, f5, f6, f7, f8, f10, m0, s0, m1, s1, ga, ka, ks⟩
    · rintro d a w' ⟨u22, u23, u24, u25, u26, u21, u27, u28, u6, u7, Aq1, cq1, Rq1, dq1, Ar0, cr0, Rr0, dr0, lo0, hi0, lo1, hi1, gL, rfl, hC, f0, g1_0, g1_1, f1, f2, f3, f4, f5, f6, f7, f8, f10, m0, s0, m1, s1, ga, ka, ks⟩ hcl hd hdep K hK
      replace hcl := Lib.hid hcl; replace hdep := Lib.hid hdep; replace hK := Lib.hid hK; have hsz := hC.out.size
      obtain rfl := f2.out (dep_of hdep.out 2 (by kernel_rfl))
      rw [ha0.out]
      simp only [Act.put, List.setIfInBounds_toArray, List.set_cons_zero, List.set_cons_succ]
      go_simp; refine (toAct_any x1 y1 z1 _).mono ?_; rintro e w3 ⟨rfl, hb⟩
      try simp only [Vg.val]
      refine hK.out _ _ ⟨u22, u23, _, _, u26, u21, u27, u28, u6, u7, Aq1, cq1, Rq1, dq1, Ar0, cr0, Rr0, dr0, lo0, hi0, lo1, hi1, gL, (by rw [ha0.out]; simp only [Act.put, List.setIfInBounds_toArray, List.set_cons_zero, List.set_cons_succ]), (hC.out.trans (hb.mono hsz)), f0, (fun h1 h2 => Rd.below' (g1_0.out h1 h2) hb), (fun h1 h2 => Rd.below' (g1_1.out h1 h2) hb), f1, f2, (fun _ => rfl), f4, f5, f6, f7, f8, f10, (fun h => ⟨Row2.below (m0.out h).1 hb (m0.out h).2.2, (m0.out h).2.1, Nat.le_trans (m0.out h).2.2 hb.size⟩), s0, (fun h => ⟨Row2.below (m1.out h).1 hb (m1.out h).2.2, (m1.out h).2.1, Nat.le_trans (m1.out h).2.2 hb.size⟩), s1, (fun h => ⟨(ga.out h).1, Nat.lt_of_lt_of_le (ga.out h).2 hb.size⟩), (fun h1 h2 => (ka.out h1 h2).below hb (ga.out h1).2), (fun h => (ks.out h).below hb (ks.out h).lt)⟩
    · rintro d a w' ⟨u22, u23, u24, u25, u26, u21, u27, u28, u6, u7, Aq1, cq1, Rq1, dq1, Ar0, cr0, Rr0, dr0, lo0, hi0, lo1, hi1, gL, rfl, hC, f0, g1_0, g1_1, f1, f2, f3, f4, f5, f6, f7, f8, f10, m0, s0, m1, s1, ga, ka, ks⟩ hcl hd hdep K hK
      replace hcl := Lib.hid hcl; replace hdep := Lib.hid hdep; replace hK := Lib.hid hK; have hsz := hC.out.size
      have cl10 : d 10 = true → d 4 = true := fun h => (dep_of (hcl.out 5 _ rfl (dep_of (hcl.out 7 _ rfl (dep_of (hcl.out 10 _ rfl h) 7 (by kernel_rfl))) 5 (by kernel_rfl))) 4 (by kernel_rfl))
      have cl9 : d 9 = true → d 4 = true := fun h => (dep_of (hcl.out 5 _ rfl (dep_of (hcl.out 6 _ rfl (dep_of (hcl.out 9 _ rfl h) 6 (by kernel_rfl))) 5 (by kernel_rfl))) 4 (by kernel_rfl))
      have cl7 : d 7 = true → d 4 = true := fun h => (dep_of (hcl.out 5 _ rfl (dep_of (hcl.out 7 _ rfl h) 5 (by kernel_rfl))) 4 (by kernel_rfl))
      have cl6 : d 6 = true → d 4 = true := fun h => (dep_of (hcl.out 5 _ rfl (dep_of (hcl.out 6 _ rfl h) 5 (by kernel_rfl))) 4 (by kernel_rfl))
      have cl5 : d 5 = true → d 4 = true := fun h => (dep_of (hcl.out 5 _ rfl h) 4 (by kernel_rfl))
      obtain rfl := f1.out (dep_of hdep.out 1 (by kernel_rfl))
      obtain rfl := f3.out (dep_of hdep.out 3 (by kernel_rfl))
      rw [ha0.out]
      simp only [Act.put, List.setIfInBounds_toArray, List.set_cons_zero, List.set_cons_succ]
      go_simp; refine (DoActS_any Aq1 cq1 Rq1 dq1 v0 x1 y1 z1 _ (g1_0.out (dep_of hdep.out 1 (by kernel_rfl)) hd) (g1_1.out (dep_of hdep.out 1 (by kernel_rfl)) hd) (by omega)).mono ?_; rintro e w3 ⟨Ar0', cr0', Rr0', dr0', rfl, hor0, hor1, hb⟩
      try simp only [Vg.val]
      rw [← HR1.out]
      refine hK.out _ _ ⟨u22, _, u24, _, _, u21, u27, u28, u6, u7, Aq1, cq1, Rq1, dq1, Ar0', cr0', Rr0', dr0', w'.heap.size, w3.heap.size, w'.heap.size, w3.heap.size, gL, (by rw [ha0.out]; simp only [Act.put, List.setIfInBounds_toArray, List.set_cons_zero, List.set_cons_succ]), (hC.out.trans (hb.mono hsz)), f0, (fun _ h => absurd h (by simp [upd])), (fun _ h => absurd h (by simp [upd])), f1, f2, f3, (fun _ => rfl), (fun h => absurd (cl5 h) (by rw [hd]; simp)), (fun h => absurd (cl6 h) (by rw [hd]; simp)), (fun h => absurd (cl7 h) (by rw [hd]; simp)), f8, (fun h => absurd (cl10 h) (by rw [hd]; simp)), (fun _ => ⟨Row2.born hor0, hsz, Nat.le_refl _⟩), (fun _ h => .inl (ga.out h).2), (fun _ => ⟨Row2.born hor1, hsz, Nat.le_refl _⟩), (fun _ h => .inl (ga.out h).2), (fun h => ⟨(ga.out h).1, Nat.lt_of_lt_of_le (ga.out h).2 hb.size⟩), (fun h1 h2 => (ka.out h1 h2).below hb (ga.out h1).2), (fun h => absurd (cl9 h) (by rw [hd]; simp))⟩
    · rintro d a w' ⟨u22, u23, u24, u25, u26, u21, u27, u28, u6, u7, Aq1, cq1, Rq1, dq1, Ar0, cr0, Rr0, dr0, lo0, hi0, lo1, hi1, gL, rfl, hC, f0, g1_0, g1_1, f1, f2, f3, f4, f5, f6, f7, f8, f10, m0, s0, m1, s1, ga, ka, ks⟩ hcl hd hdep K hK
      replace hcl := Lib.hid hcl; replace hdep := Lib.hid hdep; replace hK := Lib.hid hK; have hsz := hC.out.size
      obtain rfl := f4.out (dep_of hdep.out 4 (by kernel_rfl))
      rw [ha0.out]
      simp only [Act.put, List.setIfInBounds_toArray, List.set_cons_zero, List.set_cons_succ]
      go_simp
      refine hK.out _ _ ⟨u22, u23, u24, u25, _, _, u27, u28, u6, u7, Aq1, cq1, Rq1, dq1, Ar0, cr0, Rr0, dr0, lo0, hi0, lo1, hi1, gL, (by rw [ha0.out]; simp only [Act.put, List.setIfInBounds_toArray, List.set_cons_zero, List.set_cons_succ]), hC, f0, g1_0, g1_1, f1, f2, f3, f4, (fun _ => rfl), f6, f7, f8, f10, m0, s0, m1, s1, ga, ka, ks⟩
    · rintro d a w' ⟨u22, u23, u24, u25, u26, u21, u27, u28, u6, u7, Aq1, cq1, Rq1, dq1, Ar0, cr0, Rr0, dr0, lo0, hi0, lo1, hi1, gL, rfl, hC, f0, g1_0, g1_1, f1, f2, f3, f4, f5, f6, f7, f8, f10, m0, s0, m1, s1, ga, ka, ks⟩ hcl hd hdep K hK
      replace hcl := Lib.hid hcl; replace hdep := Lib.hid hdep; replace hK := Lib.hid hK; have hsz := hC.out.size
      obtain rfl := f5.out (dep_of hdep.out 5 (by kernel_rfl))
      rw [ha0.out]
      simp only [Act.put, List.setIfInBounds_toArray, List.set_cons_zero, List.set_cons_succ]
      go_simp
      refine hK.out _ _ ⟨u22, u23, u24, u25, u26, _, _, u28, u6, u7, Aq1, cq1, Rq1, dq1, Ar0, cr0, Rr0, dr0, lo0, hi0, lo1, hi1, gL, (by rw [ha0.out]; simp only [Act.put, List.setIfInBounds_toArray, List.set_cons_zero, List.set_cons_succ]), hC, f0, g1_0, g1_1, f1, f2, f3, f4, f5, (fun _ => rfl), f7, f8, f10, m0, s0, m1, s1, ga, ka, ks⟩
    · rintro d a w' ⟨u22, u23, u24, u25, u26, u21, u27, u28, u6, u7, Aq1, cq1, Rq1, dq1, Ar0, cr0, Rr0, dr0, lo0, hi0, lo1, hi1, gL, rfl, hC, f0, g1_0, g1_1, f1, f2, f3, f4, f5, f6, f7, f8, f10, m0, s0, m1, s1, ga, ka, ks⟩ hcl hd hdep K hK
      replace hcl := Lib.hid hcl; replace hdep := Lib.hid hdep; replace hK := Lib.hid hK; have hsz := hC.out.size
      obtain rfl := f5.out (dep_of hdep.out 5 (by kernel_rfl))
      rw [ha0.out]
      simp only [Act.put, List.setIfInBounds_toArray, List.set_cons_zero, List.set_cons_succ]
      go_simp
      refine hK.out _ _ ⟨u22, u23, u24, u25, u26, _, u27, _, u6, u7, Aq1, cq1, Rq1, dq1, Ar0, cr0, Rr0, dr0, lo0, hi0, lo1, hi1, gL, (by rw [ha0.out]; simp only [Act.put, List.setIfInBounds_toArray, List.set_cons_zero, List.set_cons_succ]), hC, f0, g1_0, g1_1, f1, f2, f3, f4, f5, f6, (fun _ => rfl), f8, f10, m0, s0, m1, s1, ga, ka, ks⟩
    · rintro d a w' ⟨u22, u23, u24, u25, u26, u21, u27, u28, u6, u7, Aq1, cq1, Rq1, dq1, Ar0, cr0, Rr0, dr0, lo0, hi0, lo1, hi1, gL, rfl, hC, f0, g1_0, g1_1, f1, f2, f3, f4, f5, f6, f7, f8, f10, m0, s0, m1, s1, ga, ka, ks⟩ hcl hd hdep K hK
      replace hcl := Lib.hid hcl; replace hdep := Lib.hid hdep; replace hK := Lib.hid hK; have hsz := hC.out.size
      rw [ha0.out]
      simp only [Act.put, List.setIfInBounds_toArray, List.set_cons_zero, List.set_cons_succ]
      go_simp
      have hb := Below.alloc (Below.refl w'.heap.size w') (Nat.le_refl _) (.cells #[.int .i64 0, .int .i64 0, .slice none 0 0, .int .i64 0, .int .i64 0, .int .i64 0, .int .i64 0, .slice none 0 0] 36)
      refine hK.out _ _ ⟨u22, u23, u24, u25, u26, u21, u27, u28, _, u7, Aq1, cq1, Rq1, dq1, Ar0, cr0, Rr0, dr0, lo0, hi0, lo1, hi1, w'.heap.size, (by rw [ha0.out]; simp only [Act.put, List.setIfInBounds_toArray, List.set_cons_zero, List.set_cons_succ]), (hC.out.trans (hb.mono hsz)), f0, (fun h1 h2 => Rd.below' (g1_0.out h1 h2) hb), (fun h1 h2 => Rd.below' (g1_1.out h1 h2) hb), f1, f2, f3, f4, f5, f6, f7, (fun _ => rfl), f10, (fun h => ⟨Row2.below (m0.out h).1 hb (m0.out h).2.2, (m0.out h).2.1, Nat.le_trans (m0.out h).2.2 hb.size⟩), (fun h _ => .inr (m0.out h).2.2), (fun h => ⟨Row2.below (m1.out h).1 hb (m1.out h).2.2, (m1.out h).2.1, Nat.le_trans (m1.out h).2.2 hb.size⟩), (fun h _ => .inr (m1.out h).2.2), (fun _ => ⟨hsz, by simp⟩), (fun _ _ => Blk.new _ _ _), (fun h => absurd (dep_of (hcl.out 9 _ rfl h) 8 (by kernel_rfl)) (by rw [hd]; simp))⟩
    · rintro d a w' ⟨u22, u23, u24, u25, u26, u21, u27, u28, u6, u7, Aq1, cq1, Rq1, dq1, Ar0, cr0, Rr0, dr0, lo0, hi0, lo1, hi1, gL, rfl, hC, f0, g1_0, g1_1, f1, f2, f3, f4, f5, f6, f7, f8, f10, m0, s0, m1, s1, ga, ka, ks⟩ hcl hd hdep K hK
      replace hcl := Lib.hid hcl; replace hdep := Lib.hid hdep; replace hK := Lib.hid hK; have hsz := hC.out.size
      have cls0 : d 4 = true := (dep_of (hcl.out 5 _ rfl (dep_of (hcl.out 6 _ rfl (dep_of hdep.out 6 (by kernel_rfl))) 5 (by kernel_rfl))) 4 (by kernel_rfl))
      have cls : upd d 9 4 = false → False := fun h => by have h9 : d 4 = false := h; rw [cls0] at h9; cases h9
      obtain rfl := f8.out (dep_of hdep.out 8 (by kernel_rfl))
      obtain rfl := f6.out (dep_of hdep.out 6 (by kernel_rfl))
      have qa := dep_of hdep.out 8 (by kernel_rfl)
      have ga1 := (ga.out qa).1
      have ga2 := (ga.out qa).2
      have kz := ka.out qa hd
      have kc := kz.cells
      have kf := kz.frozens
      have hch : Chg gL (gL + 1) w' ((((((((w'.setCell ⟨gL, 0, none⟩ (.int .i64 (doAct v0 x1 y1 z1).1.book.room)).setCell ⟨gL, 1, none⟩ (.int .i64 (doAct v0 x1 y1 z1).1.book.start)).setCell ⟨gL, 2, none⟩ (.slice Ar0 (doAct v0 x1 y1 z1).1.book.evs.length cr0)).setCell ⟨gL, 3, none⟩ (.int .i64 (doAct v0 x1 y1 z1).1.book.level)).setCell ⟨gL, 4, none⟩ (.int .i64 (doAct v0 x1 y1 z1).1.book.rained)).setCell ⟨gL, 5, none⟩ (.int .i64 (doAct v0 x1 y1 z1).1.book.drunk)).setCell ⟨gL, 6, none⟩ (.int .i64 (doAct v0 x1 y1 z1).1.book.lost)).setCell ⟨gL, 7, none⟩ (.slice Rr0 (doAct v0 x1 y1 z1).1.rights.length dr0)) := by repeat' (first | (with_reducible exact Chg.refl _ _ _) | (refine Chg.set ?_ ?_ ?_ _) | (show gL ≤ gL; omega) | (show gL < gL + 1; omega))
      rw [ha0.out]
      simp only [Act.put, List.setIfInBounds_toArray, List.set_cons_zero, List.set_cons_succ]
      go_simp
      refine hK.out _ _ ⟨u22, u23, u24, u25, u26, u21, _, u28, _, u7, Aq1, cq1, Rq1, dq1, Ar0, cr0, Rr0, dr0, lo0, hi0, lo1, hi1, gL, (by rw [ha0.out]; simp only [Act.put, List.setIfInBounds_toArray, List.set_cons_zero, List.set_cons_succ]), (Chg.below hC.out hch ga1 hsz), f0, (fun _ h => (cls h).elim), (fun _ h => (cls h).elim), f1, f2, f3, f4, f5, f6, f7, f8, f10, (fun h => ⟨Row2.chg (m0.out h).1 hch (by have := s0.out h qa; omega), (m0.out h).2.1, Nat.le_trans (m0.out h).2.2 hch.size⟩), s0, (fun h => ⟨Row2.chg (m1.out h).1 hch (by have := s1.out h qa; omega), (m1.out h).2.1, Nat.le_trans (m1.out h).2.2 hch.size⟩), s1, (fun _ => ⟨ga1, Nat.lt_of_lt_of_le ga2 hch.size⟩), (fun _ h => absurd h (by simp [upd])), (fun _ => by exact blkT)⟩
    · rintro d a w' ⟨u22, u23, u24, u25, u26, u21, u27, u28, u6, u7, Aq1, cq1, Rq1, dq1, Ar0, cr0, Rr0, dr0, lo0, hi0, lo1, hi1, gL, rfl, hC, f0, g1_0, g1_1, f1, f2, f3, f4, f5, f6, f7, f8, f10, m0, s0, m1, s1, ga, ka, ks⟩ hcl hd hdep K hK
      replace hcl := Lib.hid hcl; replace hdep := Lib.hid hdep; replace hK := Lib.hid hK; have hsz := hC.out.size
      obtain rfl := f7.out (dep_of hdep.out 7 (by kernel_rfl))
      rw [ha0.out]
      simp only [Act.put, List.setIfInBounds_toArray, List.set_cons_zero, List.set_cons_succ]
      go_simp
      refine hK.out _ _ ⟨u22, u23, u24, u25, u26, u21, u27, _, u6, _, Aq1, cq1, Rq1, dq1, Ar0, cr0, Rr0, dr0, lo0, hi0, lo1, hi1, gL, (by rw [ha0.out]; simp only [Act.put, List.setIfInBounds_toArray, List.set_cons_zero, List.set_cons_succ]), hC, f0, g1_0, g1_1, f1, f2, f3, f4, f5, f6, f7, f8, (fun _ => rfl), m0, s0, m1, s1, ga, ka, ks⟩
  rintro d a wc2 ⟨u22, u23, u24, u25, u26, u21, u27, u28, u6, u7, Aq1_2, cq1_2, Rq1_2, dq1_2, Ar0_2, cr0_2, Rr0_2, dr0_2, lo0_2, hi0_2, lo1_2, hi1_2, gL_2, rfl, hb2, f0, g1_0, g1_1, f1, f2, f3, f4, f5, f6, f7, f8, f10, m0, s0, m1, s1, ga, ka, ks⟩ hall
  obtain rfl := f0.out (hall 0 (by decide))
  obtain rfl := f1.out (hall 1 (by decide))
  obtain rfl := f2.out (hall 2 (by decide))
  obtain rfl := f3.out (hall 3 (by decide))
  obtain rfl := f4.out (hall 4 (by decide))
  obtain rfl := f5.out (hall 5 (by decide))
  obtain rfl := f6.out (hall 6 (by decide))
  obtain rfl := f7.out (hall 7 (by decide))
  obtain rfl := f8.out (hall 8 (by decide))
  obtain rfl := f10.out (hall 10 (by decide))
  have ho0_2 := (m0.out (hall 4 (by decide))).1
  have hlo0_2 := (m0.out (hall 4 (by decide))).2.1
  have hhi0_2 := (m0.out (hall 4 (by decide))).2.2
  have hgo0_2 := s0.out (hall 4 (by decide)) (hall 8 (by decide))
  have ho1_2 := (m1.out (hall 4 (by decide))).1
  have hlo1_2 := (m1.out (hall 4 (by decide))).2.1
  have hhi1_2 := (m1.out (hall 4 (by decide))).2.2
  have hgo1_2 := s1.out (hall 4 (by decide)) (hall 8 (by decide))
  have hgL2 := (ga.out (hall 8 (by decide))).1
  have hlL2 := (ga.out (hall 8 (by decide))).2
  have kL2 := ks.out (hall 9 (by decide))
  clear f0 g1_0 g1_1 f1 f2 f3 f4 f5 f6 f7 f8 f10 m0 s0 m1 s1 ga ka ks hall
  rw [ha0.out]
  simp only [Act.put, List.setIfInBounds_toArray, List.set_cons_zero, List.set_cons_succ]
  clear ha0
  replace hb2 := hb2.out
  have kb1_0_2' := (hb2.cell (p := ⟨w.heap.size, 0, none⟩) (by show w.heap.size < _; omega)).trans kb1_0_2
  have kb1_1_2' := (hb2.cell (p := ⟨w.heap.size, 1, none⟩) (by show w.heap.size < _; omega)).trans kb1_1_2
  have kb1_2_2' := (hb2.cell (p := ⟨w.heap.size, 2, none⟩) (by show w.heap.size < _; omega)).trans kb1_2_2
  have kb1_3_2' := (hb2.cell (p := ⟨w.heap.size, 3, none⟩) (by show w.heap.size < _; omega)).trans kb1_3_2
  have kb1_4_2' := (hb2.cell (p := ⟨w.heap.size, 4, none⟩) (by show w.heap.size < _; omega)).trans kb1_4_2
  have kb1_5_2' := (hb2.cell (p := ⟨w.heap.size, 5, none⟩) (by show w.heap.size < _; omega)).trans kb1_5_2
  have kb1_6_2' := (hb2.cell (p := ⟨w.heap.size, 6, none⟩) (by show w.heap.size < _; omega)).trans kb1_6_2
  have kb1_7_2' := (hb2.cell (p := ⟨w.heap.size, 7, none⟩) (by show w.heap.size < _; omega)).trans kb1_7_2
  have kb2_0_2' := (hb2.cell (p := ⟨w.heap.size + 1, 0, none⟩) (by show w.heap.size + 1 < _; omega)).trans kb2_0_2
  have kb2_1_2' := (hb2.cell (p := ⟨w.heap.size + 1, 1, none⟩) (by show w.heap.size + 1 < _; omega)).trans kb2_1_2
  have kb2_2_2' := (hb2.cell (p := ⟨w.heap.size + 1, 2, none⟩) (by show w.heap.size + 1 < _; omega)).trans kb2_2_2
  have hB2' := hB2.trans (hb2.mono hB2.size)
  have hz2' : W2.heap.size ≤ wc2.heap.size := hb2.size
  have hl_b1_2' : w.heap.size < wc2.heap.size := by omega
  have hl_b2_2' : w.heap.size + 1 < wc2.heap.size := by omega
  have kc2_0 : wc2.cell? ⟨gL_2, 0, none⟩ = some (.int .i64 (doAct v0 x1 y1 z1).1.book.room) := kL2.cell 0
  have kc2_1 : wc2.cell? ⟨gL_2, 1, none⟩ = some (.int .i64 (doAct v0 x1 y1 z1).1.book.start) := kL2.cell 1
  have kc2_2 : wc2.cell? ⟨gL_2, 2, none⟩ = some (.slice Ar0_2 (doAct v0 x1 y1 z1).1.book.evs.length cr0_2) := kL2.cell 2
  have kc2_3 : wc2.cell? ⟨gL_2, 3, none⟩ = some (.int .i64 (doAct v0 x1 y1 z1).1.book.level) := kL2.cell 3
  have kc2_4 : wc2.cell? ⟨gL_2, 4, none⟩ = some (.int .i64 (doAct v0 x1 y1 z1).1.book.rained) := kL2.cell 4
  have kc2_5 : wc2.cell? ⟨gL_2, 5, none⟩ = some (.int .i64 (doAct v0 x1 y1 z1).1.book.drunk) := kL2.cell 5
  have kc2_6 : wc2.cell? ⟨gL_2, 6, none⟩ = some (.int .i64 (doAct v0 x1 y1 z1).1.book.lost) := kL2.cell 6
  have kc2_7 : wc2.cell? ⟨gL_2, 7, none⟩ = some (.slice Rr0_2 (doAct v0 x1 y1 z1).1.rights.length dr0_2) := kL2.cell 7
  have ow0_2_0_n := ho0_2
  have ow0_2_1_n := ho1_2
  clear kb1_0_2 kb1_1_2 kb1_2_2 kb1_3_2 kb1_4_2 kb1_5_2 kb1_6_2 kb1_7_2 kb2_0_2 kb2_1_2 kb2_2_2 kL2 ho0_2 ho1_2
  go_wp2_with fail
  first | refine name_world ?_ | refine name_wp ?_
  intro W3 hW3
  have hp3 : Below wc2.heap.size wc2 W3 := by rw [hW3]; repeat' (first | (with_reducible exact Below.refl _ _) | (with_reducible refine Below.alloc ?_ ?_ _) | (with_reducible refine Below.setCell ?_ ?_ _) | (with_reducible refine Below.drew ?_) | (simp; done) | (simp; omega))
  have ow0_2_0_3 := Row2.below ow0_2_0_n hp3 (by omega)
  have ow0_2_1_3 := Row2.below ow0_2_1_n hp3 (by omega)
  have kb1_0_3 := (hp3.cell (p := ⟨w.heap.size, 0, none⟩) (by show w.heap.size < _; omega)).trans kb1_0_2'
  have kb1_1_3 := (hp3.cell (p := ⟨w.heap.size, 1, none⟩) (by show w.heap.size < _; omega)).trans kb1_1_2'
  have kb1_2_3 := (hp3.cell (p := ⟨w.heap.size, 2, none⟩) (by show w.heap.size < _; omega)).trans kb1_2_2'
  have kb1_3_3 := (hp3.cell (p := ⟨w.heap.size, 3, none⟩) (by show w.heap.size < _; omega)).trans kb1_3_2'
  have kb1_4_3 := (hp3.cell (p := ⟨w.heap.size, 4, none⟩) (by show w.heap.size < _; omega)).trans kb1_4_2'
  have kb1_5_3 := (hp3.cell (p := ⟨w.heap.size, 5, none⟩) (by show w.heap.size < _; omega)).trans kb1_5_2'
  have kb1_6_3 := (hp3.cell (p := ⟨w.heap.size, 6, none⟩) (by show w.heap.size < _; omega)).trans kb1_6_2'
  have kb1_7_3 := (hp3.cell (p := ⟨w.heap.size, 7, none⟩) (by show w.heap.size < _; omega)).trans kb1_7_2'
  have kb2_0_3 := (hp3.cell (p := ⟨w.heap.size + 1, 0, none⟩) (by show w.heap.size + 1 < _; omega)).trans kb2_0_2'
  have kb2_1_3 := (hp3.cell (p := ⟨w.heap.size + 1, 1, none⟩) (by show w.heap.size + 1 < _; omega)).trans kb2_1_2'
  have kb2_2_3 := (hp3.cell (p := ⟨w.heap.size + 1, 2, none⟩) (by show w.heap.size + 1 < _; omega)).trans kb2_2_2'
  have kb3_0_3 := (hp3.cell (p := ⟨gL_2, 0, none⟩) (by show gL_2 < _; omega)).trans kc2_0
  have kb3_1_3 := (hp3.cell (p := ⟨gL_2, 1, none⟩) (by show gL_2 < _; omega)).trans kc2_1
  have kb3_2_3 := (hp3.cell (p := ⟨gL_2, 2, none⟩) (by show gL_2 < _; omega)).trans kc2_2
  have kb3_3_3 := (hp3.cell (p := ⟨gL_2, 3, none⟩) (by show gL_2 < _; omega)).trans kc2_3
  have kb3_4_3 := (hp3.cell (p := ⟨gL_2, 4, none⟩) (by show gL_2 < _; omega)).trans kc2_4
  have kb3_5_3 := (hp3.cell (p := ⟨gL_2, 5, none⟩) (by show gL_2 < _; omega)).trans kc2_5
  have kb3_6_3 := (hp3.cell (p := ⟨gL_2, 6, none⟩) (by show gL_2 < _; omega)).trans kc2_6
  have kb3_7_3 := (hp3.cell (p := ⟨gL_2, 7, none⟩) (by show gL_2 < _; omega)).trans kc2_7
  have hB3 := hB2'.trans (hp3.mono hB2'.size)
  have hz3 : wc2.heap.size ≤ W3.heap.size := hp3.size
  have hl_b1_3 : w.heap.size < W3.heap.size := by omega
  have hl_b2_3 : w.heap.size + 1 < W3.heap.size := by omega
  have hl_b3_3 : gL_2 < W3.heap.size := by omega
  have HW3 := Lib.hid hW3; clear hW3
  clear ow0_2_0_n ow0_2_1_n kb1_0_2' kb1_1_2' kb1_2_2' kb1_3_2' kb1_4_2' kb1_5_2' kb1_6_2' kb1_7_2' kb2_0_2' kb2_1_2' kb2_2_2' kc2_0 kc2_1 kc2_2 kc2_3 kc2_4 kc2_5 kc2_6 kc2_7
  refine (toVillage_any A0 c0 R0 d0 v0 _ (Rd.later h0_0 hB3) (Rd.later h0_1 hB3) hs0).mono ?_
  rintro e w3 ⟨A'3, c'3, R'3, d'3, rfl, ho0_3, ho1_3, hb3⟩
  try simp only [Vg.val]
  have ow0_2_0_3' := Row2.below ow0_2_0_3 hb3 (by omega)
  have ow0_2_1_3' := Row2.below ow0_2_1_3 hb3 (by omega)
  have kb1_0_3' := (hb3.cell (p := ⟨w.heap.size, 0, none⟩) (by show w.heap.size < _; omega)).trans kb1_0_3
  have kb1_1_3' := (hb3.cell (p := ⟨w.heap.size, 1, none⟩) (by show w.heap.size < _; omega)).trans kb1_1_3
  have kb1_2_3' := (hb3.cell (p := ⟨w.heap.size, 2, none⟩) (by show w.heap.size < _; omega)).trans kb1_2_3
  have kb1_3_3' := (hb3.cell (p := ⟨w.heap.size, 3, none⟩) (by show w.heap.size < _; omega)).trans kb1_3_3
  have kb1_4_3' := (hb3.cell (p := ⟨w.heap.size, 4, none⟩) (by show w.heap.size < _; omega)).trans kb1_4_3
  have kb1_5_3' := (hb3.cell (p := ⟨w.heap.size, 5, none⟩) (by show w.heap.size < _; omega)).trans kb1_5_3
  have kb1_6_3' := (hb3.cell (p := ⟨w.heap.size, 6, none⟩) (by show w.heap.size < _; omega)).trans kb1_6_3
  have kb1_7_3' := (hb3.cell (p := ⟨w.heap.size, 7, none⟩) (by show w.heap.size < _; omega)).trans kb1_7_3
  have kb2_0_3' := (hb3.cell (p := ⟨w.heap.size + 1, 0, none⟩) (by show w.heap.size + 1 < _; omega)).trans kb2_0_3
  have kb2_1_3' := (hb3.cell (p := ⟨w.heap.size + 1, 1, none⟩) (by show w.heap.size + 1 < _; omega)).trans kb2_1_3
  have kb2_2_3' := (hb3.cell (p := ⟨w.heap.size + 1, 2, none⟩) (by show w.heap.size + 1 < _; omega)).trans kb2_2_3
  have kb3_0_3' := (hb3.cell (p := ⟨gL_2, 0, none⟩) (by show gL_2 < _; omega)).trans kb3_0_3
  have kb3_1_3' := (hb3.cell (p := ⟨gL_2, 1, none⟩) (by show gL_2 < _; omega)).trans kb3_1_3
  have kb3_2_3' := (hb3.cell (p := ⟨gL_2, 2, none⟩) (by show gL_2 < _; omega)).trans kb3_2_3
  have kb3_3_3' := (hb3.cell (p := ⟨gL_2, 3, none⟩) (by show gL_2 < _; omega)).trans kb3_3_3
  have kb3_4_3' := (hb3.cell (p := ⟨gL_2, 4, none⟩) (by show gL_2 < _; omega)).trans kb3_4_3
  have kb3_5_3' := (hb3.cell (p := ⟨gL_2, 5, none⟩) (by show gL_2 < _; omega)).trans kb3_5_3
  have kb3_6_3' := (hb3.cell (p := ⟨gL_2, 6, none⟩) (by show gL_2 < _; omega)).trans kb3_6_3
  have kb3_7_3' := (hb3.cell (p := ⟨gL_2, 7, none⟩) (by show gL_2 < _; omega)).trans kb3_7_3
  have hB3' := hB3.trans (hb3.mono hB3.size)
  have hz3' : W3.heap.size ≤ w3.heap.size := hb3.size
  have hl_b1_3' : w.heap.size < w3.heap.size := by omega
  have hl_b2_3' : w.heap.size + 1 < w3.heap.size := by omega
  have hl_b3_3' : gL_2 < w3.heap.size := by omega
  have ot3_0_n := Row2.born ho0_3
  have ot3_1_n := Row2.born ho1_3
  clear ow0_2_0_3 ow0_2_1_3 kb1_0_3 kb1_1_3 kb1_2_3 kb1_3_3 kb1_4_3 kb1_5_3 kb1_6_3 kb1_7_3 kb2_0_3 kb2_1_3 kb2_2_3 kb3_0_3 kb3_1_3 kb3_2_3 kb3_3_3 kb3_4_3 kb3_5_3 kb3_6_3 kb3_7_3 ho0_3 ho1_3
  go_upto_region 7 with fail
  first | refine name_world ?_ | refine name_wp ?_
  intro W4 hW4
  have hp4 : Below w3.heap.size w3 W4 := by rw [hW4]; repeat' (first | (with_reducible exact Below.refl _ _) | (with_reducible refine Below.alloc ?_ ?_ _) | (with_reducible refine Below.setCell ?_ ?_ _) | (with_reducible refine Below.drew ?_) | (simp; done) | (simp; omega))
  have kb4_0_4 : W4.cell? ⟨w3.heap.size, 0, none⟩ = some (.int .i64 v0.book.room) := by rw [hW4]; simp [go_sem]
  have kb4_1_4 : W4.cell? ⟨w3.heap.size, 1, none⟩ = some (.int .i64 v0.book.start) := by rw [hW4]; simp [go_sem]
  have kb4_2_4 : W4.cell? ⟨w3.heap.size, 2, none⟩ = some (.slice A'3 v0.book.evs.length c'3) := by rw [hW4]; simp [go_sem]
  have kb4_3_4 : W4.cell? ⟨w3.heap.size, 3, none⟩ = some (.int .i64 v0.book.level) := by rw [hW4]; simp [go_sem]
  have kb4_4_4 : W4.cell? ⟨w3.heap.size, 4, none⟩ = some (.int .i64 v0.book.rained) := by rw [hW4]; simp [go_sem]
  have kb4_5_4 : W4.cell? ⟨w3.heap.size, 5, none⟩ = some (.int .i64 v0.book.drunk) := by rw [hW4]; simp [go_sem]
  have kb4_6_4 : W4.cell? ⟨w3.heap.size, 6, none⟩ = some (.int .i64 v0.book.lost) := by rw [hW4]; simp [go_sem]
  have kb4_7_4 : W4.cell? ⟨w3.heap.size, 7, none⟩ = some (.slice R'3 v0.rights.length d'3) := by rw [hW4]; simp [go_sem]
  have hl_b4 : w3.heap.size < W4.heap.size := by rw [hW4]; first | (simp; done) | (simp; omega)
  have ow0_2_0_4 := Row2.below ow0_2_0_3' hp4 (by omega)
  have ow0_2_1_4 := Row2.below ow0_2_1_3' hp4 (by omega)
  have ot3_0_4 := Row2.below ot3_0_n hp4 (by omega)
  have ot3_1_4 := Row2.below ot3_1_n hp4 (by omega)
  have kb1_0_4 := (hp4.cell (p := ⟨w.heap.size, 0, none⟩) (by show w.heap.size < _; omega)).trans kb1_0_3'
  have kb1_1_4 := (hp4.cell (p := ⟨w.heap.size, 1, none⟩) (by show w.heap.size < _; omega)).trans kb1_1_3'
  have kb1_2_4 := (hp4.cell (p := ⟨w.heap.size, 2, none⟩) (by show w.heap.size < _; omega)).trans kb1_2_3'
  have kb1_3_4 := (hp4.cell (p := ⟨w.heap.size, 3, none⟩) (by show w.heap.size < _; omega)).trans kb1_3_3'
  have kb1_4_4 := (hp4.cell (p := ⟨w.heap.size, 4, none⟩) (by show w.heap.size < _; omega)).trans kb1_4_3'
  have kb1_5_4 := (hp4.cell (p := ⟨w.heap.size, 5, none⟩) (by show w.heap.size < _; omega)).trans kb1_5_3'
  have kb1_6_4 := (hp4.cell (p := ⟨w.heap.size, 6, none⟩) (by show w.heap.size < _; omega)).trans kb1_6_3'
  have kb1_7_4 := (hp4.cell (p := ⟨w.heap.size, 7, none⟩) (by show w.heap.size < _; omega)).trans kb1_7_3'
  have kb2_0_4 := (hp4.cell (p := ⟨w.heap.size + 1, 0, none⟩) (by show w.heap.size + 1 < _; omega)).trans kb2_0_3'
  have kb2_1_4 := (hp4.cell (p := ⟨w.heap.size + 1, 1, none⟩) (by show w.heap.size + 1 < _; omega)).trans kb2_1_3'
  have kb2_2_4 := (hp4.cell (p := ⟨w.heap.size + 1, 2, none⟩) (by show w.heap.size + 1 < _; omega)).trans kb2_2_3'
  have kb3_0_4 := (hp4.cell (p := ⟨gL_2, 0, none⟩) (by show gL_2 < _; omega)).trans kb3_0_3'
  have kb3_1_4 := (hp4.cell (p := ⟨gL_2, 1, none⟩) (by show gL_2 < _; omega)).trans kb3_1_3'
  have kb3_2_4 := (hp4.cell (p := ⟨gL_2, 2, none⟩) (by show gL_2 < _; omega)).trans kb3_2_3'
  have kb3_3_4 := (hp4.cell (p := ⟨gL_2, 3, none⟩) (by show gL_2 < _; omega)).trans kb3_3_3'
  have kb3_4_4 := (hp4.cell (p := ⟨gL_2, 4, none⟩) (by show gL_2 < _; omega)).trans kb3_4_3'
  have kb3_5_4 := (hp4.cell (p := ⟨gL_2, 5, none⟩) (by show gL_2 < _; omega)).trans kb3_5_3'
  have kb3_6_4 := (hp4.cell (p := ⟨gL_2, 6, none⟩) (by show gL_2 < _; omega)).trans kb3_6_3'
  have kb3_7_4 := (hp4.cell (p := ⟨gL_2, 7, none⟩) (by show gL_2 < _; omega)).trans kb3_7_3'
  have hB4 := hB3'.trans (hp4.mono hB3'.size)
  have hz4 : w3.heap.size ≤ W4.heap.size := hp4.size
  have hl_b1_4 : w.heap.size < W4.heap.size := by omega
  have hl_b2_4 : w.heap.size + 1 < W4.heap.size := by omega
  have hl_b3_4 : gL_2 < W4.heap.size := by omega
  have HW4 := Lib.hid hW4; clear hW4
  have hk4 : ∀ X : World, Below W4.heap.size W4 X → X.cell? ⟨w3.heap.size, 0, none⟩ = some (.int .i64 v0.book.room) ∧ X.cell? ⟨w3.heap.size, 1, none⟩ = some (.int .i64 v0.book.start) ∧ X.cell? ⟨w3.heap.size, 2, none⟩ = some (.slice A'3 v0.book.evs.length c'3) ∧ X.cell? ⟨w3.heap.size, 3, none⟩ = some (.int .i64 v0.book.level) ∧ X.cell? ⟨w3.heap.size, 4, none⟩ = some (.int .i64 v0.book.rained) ∧ X.cell? ⟨w3.heap.size, 5, none⟩ = some (.int .i64 v0.book.drunk) ∧ X.cell? ⟨w3.heap.size, 6, none⟩ = some (.int .i64 v0.book.lost) ∧ X.cell? ⟨w3.heap.size, 7, none⟩ = some (.slice R'3 v0.rights.length d'3) ∧ X.cell? ⟨w.heap.size + 1, 0, none⟩ = some (.int .i64 x1) ∧ X.cell? ⟨w.heap.size + 1, 1, none⟩ = some (.int .i64 y1) ∧ X.cell? ⟨w.heap.size + 1, 2, none⟩ = some (.int .i64 z1) := fun X hX => ⟨(Below.cell hX (p := ⟨w3.heap.size, 0, none⟩) (by show w3.heap.size < W4.heap.size; omega)).trans kb4_0_4, (Below.cell hX (p := ⟨w3.heap.size, 1, none⟩) (by show w3.heap.size < W4.heap.size; omega)).trans kb4_1_4, (Below.cell hX (p := ⟨w3.heap.size, 2, none⟩) (by show w3.heap.size < W4.heap.size; omega)).trans kb4_2_4, (Below.cell hX (p := ⟨w3.heap.size, 3, none⟩) (by show w3.heap.size < W4.heap.size; omega)).trans kb4_3_4, (Below.cell hX (p := ⟨w3.heap.size, 4, none⟩) (by show w3.heap.size < W4.heap.size; omega)).trans kb4_4_4, (Below.cell hX (p := ⟨w3.heap.size, 5, none⟩) (by show w3.heap.size < W4.heap.size; omega)).trans kb4_5_4, (Below.cell hX (p := ⟨w3.heap.size, 6, none⟩) (by show w3.heap.size < W4.heap.size; omega)).trans kb4_6_4, (Below.cell hX (p := ⟨w3.heap.size, 7, none⟩) (by show w3.heap.size < W4.heap.size; omega)).trans kb4_7_4, (Below.cell hX (p := ⟨w.heap.size + 1, 0, none⟩) (by show w.heap.size + 1 < W4.heap.size; omega)).trans kb2_0_4, (Below.cell hX (p := ⟨w.heap.size + 1, 1, none⟩) (by show w.heap.size + 1 < W4.heap.size; omega)).trans kb2_1_4, (Below.cell hX (p := ⟨w.heap.size + 1, 2, none⟩) (by show w.heap.size + 1 < W4.heap.size; omega)).trans kb2_2_4⟩
  have HK4 := Lib.hid hk4; clear hk4
  have hrd4_x0_0 := ot3_0_4.rd
  have hrd4_x0_1 := ot3_1_4.rd
  clear ow0_2_0_3' ow0_2_1_3' ot3_0_n ot3_1_n kb1_0_3' kb1_1_3' kb1_2_3' kb1_3_3' kb1_4_3' kb1_5_3' kb1_6_3' kb1_7_3' kb2_0_3' kb2_1_3' kb2_2_3' kb3_0_3' kb3_1_3' kb3_2_3' kb3_3_3' kb3_4_3' kb3_5_3' kb3_6_3' kb3_7_3'
  (try simp only [Int.natCast_add])
  refine name_act ?_
  intro a0 ha0
  replace ha0 := Lib.hid ha0
  refine wp_region_inv (by kernel_rfl) (by kernel_rfl) (fun d a w' => ∃ (u32 u33 u34 u35 u31 u36 u37 u9 u10 : Value) (Ar0 : Option Addr) (cr0 : Nat) (Rr0 : Option Addr) (dr0 : Nat) (lo0 : Nat) (hi0 : Nat) (lo1 : Nat) (hi1 : Nat) (gL : Nat), a = (((((((((a0.put (some 32) u32).put (some 33) u33).put (some 34) u34).put (some 35) u35).put (some 31) u31).put (some 36) u36).put (some 37) u37).put (some 9) u9).put (some 10) u10) ∧ Hid (Below W4.heap.size W4 w') ∧ Hid (d 0 = true → u32 = .agg #[.int .i64 v0.book.room, .int .i64 v0.book.start, .slice A'3 v0.book.evs.length c'3, .int .i64 v0.book.level, .int .i64 v0.book.rained, .int .i64 v0.book.drunk, .int .i64 v0.book.lost, .slice R'3 v0.rights.length d'3]) ∧ Hid (d 1 = true → u33 = .agg #[.int .i64 x1, .int .i64 y1, .int .i64 z1]) ∧ Hid (d 2 = true → u34 = .agg #[.int .i64 x1, .int .i64 y1, .int .i64 z1]) ∧ Hid (d 3 = true → u35 = .tuple #[.agg #[.int .i64 (doAct v0 x1 y1 z1).1.book.room, .int .i64 (doAct v0 x1 y1 z1).1.book.start, .slice Ar0 (doAct v0 x1 y1 z1).1.book.evs.length cr0, .int .i64 (doAct v0 x1 y1 z1).1.book.level, .int .i64 (doAct v0 x1 y1 z1).1.book.rained, .int .i64 (doAct v0 x1 y1 z1).1.book.drunk, .int .i64 (doAct v0 x1 y1 z1).1.book.lost, .slice Rr0 (doAct v0 x1 y1 z1).1.rights.length dr0], .int .i64 r1]) ∧ Hid (d 4 = true → u31 = .tuple #[.agg #[.int .i64 (doAct v0 x1 y1 z1).1.book.room, .int .i64 (doAct v0 x1 y1 z1).1.book.start, .slice Ar0 (doAct v0 x1 y1 z1).1.book.evs.length cr0, .int .i64 (doAct v0 x1 y1 z1).1.book.level, .int .i64 (doAct v0 x1 y1 z1).1.book.rained, .int .i64 (doAct v0 x1 y1 z1).1.book.drunk, .int .i64 (doAct v0 x1 y1 z1).1.book.lost, .slice Rr0 (doAct v0 x1 y1 z1).1.rights.length dr0], .int .i64 r1]) ∧ Hid (d 5 = true → u36 = .agg #[.int .i64 (doAct v0 x1 y1 z1).1.book.room, .int .i64 (doAct v0 x1 y1 z1).1.book.start, .slice Ar0 (doAct v0 x1 y1 z1).1.book.evs.length cr0, .int .i64 (doAct v0 x1 y1 z1).1.book.level, .int .i64 (doAct v0 x1 y1 z1).1.book.rained, .int .i64 (doAct v0 x1 y1 z1).1.book.drunk, .int .i64 (doAct v0 x1 y1 z1).1.book.lost, .slice Rr0 (doAct v0 x1 y1 z1).1.rights.length dr0]) ∧ Hid (d 6 = true → u37 = .int .i64 r1) ∧ Hid (d 7 = true → u9 = .pointer (some ⟨gL, 0, none⟩)) ∧ Hid (d 9 = true → u10 = .int .i64 r1) ∧ Hid (d 3 = true → Row2 w' lo0 hi0 87 3 Ar0 ((doAct v0 x1 y1 z1).1.book.evs.length) cr0 (t3s (doAct v0 x1 y1 z1).1.book.evs) ∧ W4.heap.size ≤ lo0 ∧ hi0 ≤ w'.heap.size) ∧ Hid (d 3 = true → d 7 = true → gL < lo0 ∨ hi0 ≤ gL) ∧ Hid (d 3 = true → Row2 w' lo0 hi0 92 3 Rr0 ((doAct v0 x1 y1 z1).1.rights.length) dr0 (t3s (doAct v0 x1 y1 z1).1.rights) ∧ W4.heap.size ≤ lo0 ∧ hi0 ≤ w'.heap.size) ∧ Hid (d 3 = true → d 7 = true → gL < lo0 ∨ hi0 ≤ gL) ∧ Hid (d 7 = true → W4.heap.size ≤ gL ∧ gL < w'.heap.size) ∧ Hid (d 7 = true → d 8 = false → Blk w' gL 36 #[.int .i64 0, .int .i64 0, .slice none 0 0, .int .i64 0, .int .i64 0, .int .i64 0, .int .i64 0, .slice none 0 0]) ∧ Hid (d 8 = true → Blk w' gL 36 #[.int .i64 (doAct v0 x1 y1 z1).1.book.room, .int .i64 (doAct v0 x1 y1 z1).1.book.start, .slice Ar0 (doAct v0 x1 y1 z1).1.book.evs.length cr0, .int .i64 (doAct v0 x1 y1 z1).1.book.level, .int .i64 (doAct v0 x1 y1 z1).1.book.rained, .int .i64 (doAct v0 x1 y1 z1).1.book.drunk, .int .i64 (doAct v0 x1 y1 z1).1.book.lost, .slice Rr0 (doAct v0 x1 y1 z1).1.rights.length dr0])) ?_ ?_ ?_
  · refine ⟨undef, undef, undef, undef, undef, undef, undef, undef, undef, none, 0, none, 0, 0, 0, 0, 0, 0, ?_, (Below.refl _ _).drew, ?_⟩
    · rw [ha0.out]; simp only [Act.put, List.setIfInBounds_toArray, List.set_cons_zero, List.set_cons_succ]
    · repeat' apply And.intro
      all_goals (show _ → _; intro h; cases h)
  · refine ⟨?_, ?_, ?_, ?_, ?_, ?_, ?_, ?_, ?_, ?_, trivial⟩
    · rintro d a w' ⟨u32, u33, u34, u35, u31, u36, u37, u9, u10, Ar0, cr0, Rr0, dr0, lo0, hi0, lo1, hi1, gL, rfl, hC, f0, f1, f2, f3, f4, f5, f6, f7, f9, m0, s0, m1, s1, ga, ka, ks⟩ hcl hd hdep K hK
      replace hcl := Lib.hid hcl; replace hdep := Lib.hid hdep; replace hK := Lib.hid hK; have hsz := hC.out.size
      have hS := HK4.out w' hC.out
      rw [ha0.out]
      simp only [Act.put, List.setIfInBounds_toArray, List.set_cons_zero, List.set_cons_succ]
      go_simp
      refine hK.out _ _ ⟨_, u33, u34, u35, u31, u36, u37, u9, u10, Ar0, cr0, Rr0, dr0, lo0, hi0, lo1, hi1, gL, (by rw [ha0.out]; simp only [Act.put, List.setIfInBounds_toArray, List.set_cons_zero, List.set_cons_succ]), hC, (fun _ => rfl), f1, f2, f3, f4, f5, f6, f7, f9, m0, s0, m1, s1, ga, ka, ks⟩
    · rintro d a w' ⟨u32, u33, u34, u35, u31, u36, u37, u9, u10, Ar0, cr0, Rr0, dr0, lo0, hi0, lo1, hi1, gL, rfl, hC, f0, f1, f2, f3, f4, f5, f6, f7, f9, m0, s0, m1, s1, ga, ka, ks⟩ hcl hd hdep K hK
      replace hcl := Lib.hid hcl; replace hdep := Lib.hid hdep; replace hK := Lib.hid hK; have hsz := hC.out.size
      have hS := HK4.out w' hC.out
      rw [ha0.out]
      simp only [Act.put, List.setIfInBounds_toArray, List.set_cons_zero, List.set_cons_succ]
      go_simp
      refine hK.out _ _ ⟨u32, _, u34, u35, u31, u36, u37, u9, u10, Ar0, cr0, Rr0, dr0, lo0, hi0, lo1, hi1, gL, (by rw [ha0.out]; simp only [Act.put, List.setIfInBounds_toArray, List.set_cons_zero, List.set_cons_succ]), hC, f0, (fun _ => rfl), f2, f3, f4, f5, f6, f7, f9, m0, s0, m1, s1, ga, ka, ks⟩
    · rintro d a w' ⟨u32, u33, u34, u35, u31, u36, u37, u9, u10, Ar0, cr0, Rr0, dr0, lo0, hi0, lo1, hi1, gL, rfl, hC, f0, f1, f2, f3, f4, f5, f6, f7, f9, m0, s0, m1, s1, ga, ka, ks⟩ hcl hd hdep K hK
      replace hcl := Lib.hid hcl; replace hdep := Lib.hid hdep; replace hK := Lib.hid hK; have hsz := hC.out.size
      obtain rfl := f1.out (dep_of hdep.out 1 (by kernel_rfl))
      rw [ha0.out]
      simp only [Act.put, List.setIfInBounds_toArray, List.set_cons_zero, List.set_cons_succ]
      go_simp; refine (toAct_any x1 y1 z1 _).mono ?_; rintro e w3 ⟨rfl, hb⟩
      try simp only [Vg.val]
      refine hK.out _ _ ⟨u32, _, _, u35, u31, u36, u37, u9, u10, Ar0, cr0, Rr0, dr0, lo0, hi0, lo1, hi1, gL, (by rw [ha0.out]; simp only [Act.put, List.setIfInBounds_toArray, List.set_cons_zero, List.set_cons_succ]), (hC.out.trans (hb.mono hsz)), f0, f1, (fun _ => rfl), f3, f4, f5, f6, f7, f9, (fun h => ⟨Row2.below (m0.out h).1 hb (m0.out h).2.2, (m0.out h).2.1, Nat.le_trans (m0.out h).2.2 hb.size⟩), s0, (fun h => ⟨Row2.below (m1.out h).1 hb (m1.out h).2.2, (m1.out h).2.1, Nat.le_trans (m1.out h).2.2 hb.size⟩), s1, (fun h => ⟨(ga.out h).1, Nat.lt_of_lt_of_le (ga.out h).2 hb.size⟩), (fun h1 h2 => (ka.out h1 h2).below hb (ga.out h1).2), (fun h => (ks.out h).below hb (ks.out h).lt)⟩
    · rintro d a w' ⟨u32, u33, u34, u35, u31, u36, u37, u9, u10, Ar0, cr0, Rr0, dr0, lo0, hi0, lo1, hi1, gL, rfl, hC, f0, f1, f2, f3, f4, f5, f6, f7, f9, m0, s0, m1, s1, ga, ka, ks⟩ hcl hd hdep K hK
      replace hcl := Lib.hid hcl; replace hdep := Lib.hid hdep; replace hK := Lib.hid hK; have hsz := hC.out.size
      have cl9 : d 9 = true → d 3 = true := fun h => (dep_of (hcl.out 4 _ rfl (dep_of (hcl.out 6 _ rfl (dep_of (hcl.out 9 _ rfl h) 6 (by kernel_rfl))) 4 (by kernel_rfl))) 3 (by kernel_rfl))
      have cl8 : d 8 = true → d 3 = true := fun h => (dep_of (hcl.out 4 _ rfl (dep_of (hcl.out 5 _ rfl (dep_of (hcl.out 8 _ rfl h) 5 (by kernel_rfl))) 4 (by kernel_rfl))) 3 (by kernel_rfl))
      have cl6 : d 6 = true → d 3 = true := fun h => (dep_of (hcl.out 4 _ rfl (dep_of (hcl.out 6 _ rfl h) 4 (by kernel_rfl))) 3 (by kernel_rfl))
      have cl5 : d 5 = true → d 3 = true := fun h => (dep_of (hcl.out 4 _ rfl (dep_of (hcl.out 5 _ rfl h) 4 (by kernel_rfl))) 3 (by kernel_rfl))
      have cl4 : d 4 = true → d 3 = true := fun h => (dep_of (hcl.out 4 _ rfl h) 3 (by kernel_rfl))
      obtain rfl := f0.out (dep_of hdep.out 0 (by kernel_rfl))
      obtain rfl := f2.out (dep_of hdep.out 2 (by kernel_rfl))
      rw [ha0.out]
      simp only [Act.put, List.setIfInBounds_toArray, List.set_cons_zero, List.set_cons_succ]
      go_simp; refine (DoAct_any A'3 c'3 R'3 d'3 v0 x1 y1 z1 _ (Rd.below' hrd4_x0_0 hC.out) (Rd.below' hrd4_x0_1 hC.out) (by omega)).mono ?_; rintro e w3 ⟨Ar0', cr0', Rr0', dr0', rfl, hor0, hor1, hb⟩
      try simp only [Vg.val]
      rw [← HR1.out]
      refine hK.out _ _ ⟨_, u33, _, _, u31, u36, u37, u9, u10, Ar0', cr0', Rr0', dr0', w'.heap.size, w3.heap.size, w'.heap.size, w3.heap.size, gL, (by rw [ha0.out]; simp only [Act.put, List.setIfInBounds_toArray, List.set_cons_zero, List.set_cons_succ]), (hC.out.trans (hb.mono hsz)), f0, f1, f2, (fun _ => rfl), (fun h => absurd (cl4 h) (by rw [hd]; simp)), (fun h => absurd (cl5 h) (by rw [hd]; simp)), (fun h => absurd (cl6 h) (by rw [hd]; simp)), f7, (fun h => absurd (cl9 h) (by rw [hd]; simp)), (fun _ => ⟨Row2.born hor0, hsz, Nat.le_refl _⟩), (fun _ h => .inl (ga.out h).2), (fun _ => ⟨Row2.born hor1, hsz, Nat.le_refl _⟩), (fun _ h => .inl (ga.out h).2), (fun h => ⟨(ga.out h).1, Nat.lt_of_lt_of_le (ga.out h).2 hb.size⟩), (fun h1 h2 => (ka.out h1 h2).below hb (ga.out h1).2), (fun h => absurd (cl8 h) (by rw [hd]; simp))⟩
    · rintro d a w' ⟨u32, u33, u34, u35, u31, u36, u37, u9, u10, Ar0, cr0, Rr0, dr0, lo0, hi0, lo1, hi1, gL, rfl, hC, f0, f1, f2, f3, f4, f5, f6, f7, f9, m0, s0, m1, s1, ga, ka, ks⟩ hcl hd hdep K hK
      replace hcl := Lib.hid hcl; replace hdep := Lib.hid hdep; replace hK := Lib.hid hK; have hsz := hC.out.size
      obtain rfl := f3.out (dep_of hdep.out 3 (by kernel_rfl))
      rw [ha0.out]
      simp only [Act.put, List.setIfInBounds_toArray, List.set_cons_zero, List.set_cons_succ]
      go_simp
      refine hK.out _ _ ⟨u32, u33, u34, _, _, u36, u37, u9, u10, Ar0, cr0, Rr0, dr0, lo0, hi0, lo1, hi1, gL, (by rw [ha0.out]; simp only [Act.put, List.setIfInBounds_toArray, List.set_cons_zero, List.set_cons_succ]), hC, f0, f1, f2, f3, (fun _ => rfl), f5, f6, f7, f9, m0, s0, m1, s1, ga, ka, ks⟩
    · rintro d a w' ⟨u32, u33, u34, u35, u31, u36, u37, u9, u10, Ar0, cr0, Rr0, dr0, lo0, hi0, lo1, hi1, gL, rfl, hC, f0, f1, f2, f3, f4, f5, f6, f7, f9, m0, s0, m1, s1, ga, ka, ks⟩ hcl hd hdep K hK
      replace hcl := Lib.hid hcl; replace hdep := Lib.hid hdep; replace hK := Lib.hid hK; have hsz := hC.out.size
      obtain rfl := f4.out (dep_of hdep.out 4 (by kernel_rfl))
      rw [ha0.out]
      simp only [Act.put, List.setIfInBounds_toArray, List.set_cons_zero, List.set_cons_succ]
      go_simp
      refine hK.out _ _ ⟨u32, u33, u34, u35, _, _, u37, u9, u10, Ar0, cr0, Rr0, dr0, lo0, hi0, lo1, hi1, gL, (by rw [ha0.out]; simp only [Act.put, List.setIfInBounds_toArray, List.set_cons_zero, List.set_cons_succ]), hC, f0, f1, f2, f3, f4, (fun _ => rfl), f6, f7, f9, m0, s0, m1, s1, ga, ka, ks⟩
    · rintro d a w' ⟨u32, u33, u34, u35, u31, u36, u37, u9, u10, Ar0, cr0, Rr0, dr0, lo0, hi0, lo1, hi1, gL, rfl, hC, f0, f1, f2, f3, f4, f5, f6, f7, f9, m0, s0, m1, s1, ga, ka, ks⟩ hcl hd hdep K hK
      replace hcl := Lib.hid hcl; replace hdep := Lib.hid hdep; replace hK := Lib.hid hK; have hsz := hC.out.size
      obtain rfl := f4.out (dep_of hdep.out 4 (by kernel_rfl))
      rw [ha0.out]
      simp only [Act.put, List.setIfInBounds_toArray, List.set_cons_zero, List.set_cons_succ]
      go_simp
      refine hK.out _ _ ⟨u32, u33, u34, u35, _, u36, _, u9, u10, Ar0, cr0, Rr0, dr0, lo0, hi0, lo1, hi1, gL, (by rw [ha0.out]; simp only [Act.put, List.setIfInBounds_toArray, List.set_cons_zero, List.set_cons_succ]), hC, f0, f1, f2, f3, f4, f5, (fun _ => rfl), f7, f9, m0, s0, m1, s1, ga, ka, ks⟩
    · rintro d a w' ⟨u32, u33, u34, u35, u31, u36, u37, u9, u10, Ar0, cr0, Rr0, dr0, lo0, hi0, lo1, hi1, gL, rfl, hC, f0, f1, f2, f3, f4, f5, f6, f7, f9, m0, s0, m1, s1, ga, ka, ks⟩ hcl hd hdep K hK
      replace hcl := Lib.hid hcl; replace hdep := Lib.hid hdep; replace hK := Lib.hid hK; have hsz := hC.out.size
      rw [ha0.out]
      simp only [Act.put, List.setIfInBounds_toArray, List.set_cons_zero, List.set_cons_succ]
      go_simp
      have hb := Below.alloc (Below.refl w'.heap.size w') (Nat.le_refl _) (.cells #[.int .i64 0, .int .i64 0, .slice none 0 0, .int .i64 0, .int .i64 0, .int .i64 0, .int .i64 0, .slice none 0 0] 36)
      refine hK.out _ _ ⟨u32, u33, u34, u35, u31, u36, u37, _, u10, Ar0, cr0, Rr0, dr0, lo0, hi0, lo1, hi1, w'.heap.size, (by rw [ha0.out]; simp only [Act.put, List.setIfInBounds_toArray, List.set_cons_zero, List.set_cons_succ]), (hC.out.trans (hb.mono hsz)), f0, f1, f2, f3, f4, f5, f6, (fun _ => rfl), f9, (fun h => ⟨Row2.below (m0.out h).1 hb (m0.out h).2.2, (m0.out h).2.1, Nat.le_trans (m0.out h).2.2 hb.size⟩), (fun h _ => .inr (m0.out h).2.2), (fun h => ⟨Row2.below (m1.out h).1 hb (m1.out h).2.2, (m1.out h).2.1, Nat.le_trans (m1.out h).2.2 hb.size⟩), (fun h _ => .inr (m1.out h).2.2), (fun _ => ⟨hsz, by simp⟩), (fun _ _ => Blk.new _ _ _), (fun h => absurd (dep_of (hcl.out 8 _ rfl h) 7 (by kernel_rfl)) (by rw [hd]; simp))⟩
    · rintro d a w' ⟨u32, u33, u34, u35, u31, u36, u37, u9, u10, Ar0, cr0, Rr0, dr0, lo0, hi0, lo1, hi1, gL, rfl, hC, f0, f1, f2, f3, f4, f5, f6, f7, f9, m0, s0, m1, s1, ga, ka, ks⟩ hcl hd hdep K hK
      replace hcl := Lib.hid hcl; replace hdep := Lib.hid hdep; replace hK := Lib.hid hK; have hsz := hC.out.size
      have cls0 : d 3 = true := (dep_of (hcl.out 4 _ rfl (dep_of (hcl.out 5 _ rfl (dep_of hdep.out 5 (by kernel_rfl))) 4 (by kernel_rfl))) 3 (by kernel_rfl))
      have cls : upd d 8 3 = false → False := fun h => by have h9 : d 3 = false := h; rw [cls0] at h9; cases h9
      obtain rfl := f7.out (dep_of hdep.out 7 (by kernel_rfl))
      obtain rfl := f5.out (dep_of hdep.out 5 (by kernel_rfl))
      have qa := dep_of hdep.out 7 (by kernel_rfl)
      have ga1 := (ga.out qa).1
      have ga2 := (ga.out qa).2
      have kz := ka.out qa hd
      have kc := kz.cells
      have kf := kz.frozens
      have hch : Chg gL (gL + 1) w' ((((((((w'.setCell ⟨gL, 0, none⟩ (.int .i64 (doAct v0 x1 y1 z1).1.book.room)).setCell ⟨gL, 1, none⟩ (.int .i64 (doAct v0 x1 y1 z1).1.book.start)).setCell ⟨gL, 2, none⟩ (.slice Ar0 (doAct v0 x1 y1 z1).1.book.evs.length cr0)).setCell ⟨gL, 3, none⟩ (.int .i64 (doAct v0 x1 y1 z1).1.book.level)).setCell ⟨gL, 4, none⟩ (.int .i64 (doAct v0 x1 y1 z1).1.book.rained)).setCell ⟨gL, 5, none⟩ (.int .i64 (doAct v0 x1 y1 z1).1.book.drunk)).setCell ⟨gL, 6, none⟩ (.int .i64 (doAct v0 x1 y1 z1).1.book.lost)).setCell ⟨gL, 7, none⟩ (.slice Rr0 (doAct v0 x1 y1 z1).1.rights.length dr0)) := by repeat' (first | (with_reducible exact Chg.refl _ _ _) | (refine Chg.set ?_ ?_ ?_ _) | (show gL ≤ gL; omega) | (show gL < gL + 1; omega))
      rw [ha0.out]
      simp only [Act.put, List.setIfInBounds_toArray, List.set_cons_zero, List.set_cons_succ]
      go_simp
      refine hK.out _ _ ⟨u32, u33, u34, u35, u31, _, u37, _, u10, Ar0, cr0, Rr0, dr0, lo0, hi0, lo1, hi1, gL, (by rw [ha0.out]; simp only [Act.put, List.setIfInBounds_toArray, List.set_cons_zero, List.set_cons_succ]), (Chg.below hC.out hch ga1 hsz), f0, f1, f2, f3, f4, f5, f6, f7, f9, (fun h => ⟨Row2.chg (m0.out h).1 hch (by have := s0.out h qa; omega), (m0.out h).2.1, Nat.le_trans (m0.out h).2.2 hch.size⟩), s0, (fun h => ⟨Row2.chg (m1.out h).1 hch (by have := s1.out h qa; omega), (m1.out h).2.1, Nat.le_trans (m1.out h).2.2 hch.size⟩), s1, (fun _ => ⟨ga1, Nat.lt_of_lt_of_le ga2 hch.size⟩), (fun _ h => absurd h (by simp [upd])), (fun _ => by exact blkT)⟩
    · rintro d a w' ⟨u32, u33, u34, u35, u31, u36, u37, u9, u10, Ar0, cr0, Rr0, dr0, lo0, hi0, lo1, hi1, gL, rfl, hC, f0, f1, f2, f3, f4, f5, f6, f7, f9, m0, s0, m1, s1, ga, ka, ks⟩ hcl hd hdep K hK
      replace hcl := Lib.hid hcl; replace hdep := Lib.hid hdep; replace hK := Lib.hid hK; have hsz := hC.out.size
      obtain rfl := f6.out (dep_of hdep.out 6 (by kernel_rfl))
      rw [ha0.out]
      simp only [Act.put, List.setIfInBounds_toArray, List.set_cons_zero, List.set_cons_succ]
      go_simp
      refine hK.out _ _ ⟨u32, u33, u34, u35, u31, u36, _, u9, _, Ar0, cr0, Rr0, dr0, lo0, hi0, lo1, hi1, gL, (by rw [ha0.out]; simp only [Act.put, List.setIfInBounds_toArray, List.set_cons_zero, List.set_cons_succ]), hC, f0, f1, f2, f3, f4, f5, f6, f7, (fun _ => rfl), m0, s0, m1, s1, ga, ka, ks⟩
  rintro d a wc4 ⟨u32, u33, u34, u35, u31, u36, u37, u9, u10, Ar0_4, cr0_4, Rr0_4, dr0_4, lo0_4, hi0_4, lo1_4, hi1_4, gL_4, rfl, hb4, f0, f1, f2, f3, f4, f5, f6, f7, f9, m0, s0, m1, s1, ga, ka, ks⟩ hall
  obtain rfl := f0.out (hall 0 (by decide))
  obtain rfl := f1.out (hall 1 (by decide))
  obtain rfl := f2.out (hall 2 (by decide))
  obtain rfl := f3.out (hall 3 (by decide))
  obtain rfl := f4.out (hall 4 (by decide))
  obtain rfl := f5.out (hall 5 (by decide))
  obtain rfl := f6.out (hall 6 (by decide))
  obtain rfl := f7.out (hall 7 (by decide))
  obtain rfl := f9.out (hall 9 (by decide))
  have ho0_4 := (m0.out (hall 3 (by decide))).1
  have hlo0_4 := (m0.out (hall 3 (by decide))).2.1
  have hhi0_4 := (m0.out (hall 3 (by decide))).2.2
  have hgo0_4 := s0.out (hall 3 (by decide)) (hall 7 (by decide))
  have ho1_4 := (m1.out (hall 3 (by decide))).1
  have hlo1_4 := (m1.out (hall 3 (by decide))).2.1
  have hhi1_4 := (m1.out (hall 3 (by decide))).2.2
  have hgo1_4 := s1.out (hall 3 (by decide)) (hall 7 (by decide))
  have hgL4 := (ga.out (hall 7 (by decide))).1
  have hlL4 := (ga.out (hall 7 (by decide))).2
  have kL4 := ks.out (hall 8 (by decide))
  clear f0 f1 f2 f3 f4 f5 f6 f7 f9 m0 s0 m1 s1 ga ka ks hall
  rw [ha0.out]
  simp only [Act.put, List.setIfInBounds_toArray, List.set_cons_zero, List.set_cons_succ]
  clear ha0
  replace hb4 := hb4.out
  have ow0_2_0_4' := Row2.below ow0_2_0_4 hb4 (by omega)
  have ow0_2_1_4' := Row2.below ow0_2_1_4 hb4 (by omega)
  have ot3_0_4' := Row2.below ot3_0_4 hb4 (by omega)
  have ot3_1_4' := Row2.below ot3_1_4 hb4 (by omega)
  have kb1_0_4' := (hb4.cell (p := ⟨w.heap.size, 0, none⟩) (by show w.heap.size < _; omega)).trans kb1_0_4
  have kb1_1_4' := (hb4.cell (p := ⟨w.heap.size, 1, none⟩) (by show w.heap.size < _; omega)).trans kb1_1_4
  have kb1_2_4' := (hb4.cell (p := ⟨w.heap.size, 2, none⟩) (by show w.heap.size < _; omega)).trans kb1_2_4
  have kb1_3_4' := (hb4.cell (p := ⟨w.heap.size, 3, none⟩) (by show w.heap.size < _; omega)).trans kb1_3_4
  have kb1_4_4' := (hb4.cell (p := ⟨w.heap.size, 4, none⟩) (by show w.heap.size < _; omega)).trans kb1_4_4
  have kb1_5_4' := (hb4.cell (p := ⟨w.heap.size, 5, none⟩) (by show w.heap.size < _; omega)).trans kb1_5_4
  have kb1_6_4' := (hb4.cell (p := ⟨w.heap.size, 6, none⟩) (by show w.heap.size < _; omega)).trans kb1_6_4
  have kb1_7_4' := (hb4.cell (p := ⟨w.heap.size, 7, none⟩) (by show w.heap.size < _; omega)).trans kb1_7_4
  have kb2_0_4' := (hb4.cell (p := ⟨w.heap.size + 1, 0, none⟩) (by show w.heap.size + 1 < _; omega)).trans kb2_0_4
  have kb2_1_4' := (hb4.cell (p := ⟨w.heap.size + 1, 1, none⟩) (by show w.heap.size + 1 < _; omega)).trans kb2_1_4
  have kb2_2_4' := (hb4.cell (p := ⟨w.heap.size + 1, 2, none⟩) (by show w.heap.size + 1 < _; omega)).trans kb2_2_4
  have kb3_0_4' := (hb4.cell (p := ⟨gL_2, 0, none⟩) (by show gL_2 < _; omega)).trans kb3_0_4
  have kb3_1_4' := (hb4.cell (p := ⟨gL_2, 1, none⟩) (by show gL_2 < _; omega)).trans kb3_1_4
  have kb3_2_4' := (hb4.cell (p := ⟨gL_2, 2, none⟩) (by show gL_2 < _; omega)).trans kb3_2_4
  have kb3_3_4' := (hb4.cell (p := ⟨gL_2, 3, none⟩) (by show gL_2 < _; omega)).trans kb3_3_4
  have kb3_4_4' := (hb4.cell (p := ⟨gL_2, 4, none⟩) (by show gL_2 < _; omega)).trans kb3_4_4
  have kb3_5_4' := (hb4.cell (p := ⟨gL_2, 5, none⟩) (by show gL_2 < _; omega)).trans kb3_5_4
  have kb3_6_4' := (hb4.cell (p := ⟨gL_2, 6, none⟩) (by show gL_2 < _; omega)).trans kb3_6_4
  have kb3_7_4' := (hb4.cell (p := ⟨gL_2, 7, none⟩) (by show gL_2 < _; omega)).trans kb3_7_4
  have kb4_0_4' := (hb4.cell (p := ⟨w3.heap.size, 0, none⟩) (by show w3.heap.size < _; omega)).trans kb4_0_4
  have kb4_1_4' := (hb4.cell (p := ⟨w3.heap.size, 1, none⟩) (by show w3.heap.size < _; omega)).trans kb4_1_4
  have kb4_2_4' := (hb4.cell (p := ⟨w3.heap.size, 2, none⟩) (by show w3.heap.size < _; omega)).trans kb4_2_4
  have kb4_3_4' := (hb4.cell (p := ⟨w3.heap.size, 3, none⟩) (by show w3.heap.size < _; omega)).trans kb4_3_4
  have kb4_4_4' := (hb4.cell (p := ⟨w3.heap.size, 4, none⟩) (by show w3.heap.size < _; omega)).trans kb4_4_4
  have kb4_5_4' := (hb4.cell (p := ⟨w3.heap.size, 5, none⟩) (by show w3.heap.size < _; omega)).trans kb4_5_4
  have kb4_6_4' := (hb4.cell (p := ⟨w3.heap.size, 6, none⟩) (by show w3.heap.size < _; omega)).trans kb4_6_4
  have kb4_7_4' := (hb4.cell (p := ⟨w3.heap.size, 7, none⟩) (by show w3.heap.size < _; omega)).trans kb4_7_4
  have hB4' := hB4.trans (hb4.mono hB4.size)
  have hz4' : W4.heap.size ≤ wc4.heap.size := hb4.size
  have hl_b1_4' : w.heap.size < wc4.heap.size := by omega
  have hl_b2_4' : w.heap.size + 1 < wc4.heap.size := by omega
  have hl_b3_4' : gL_2 < wc4.heap.size := by omega
  have hl_b4_4' : w3.heap.size < wc4.heap.size := by omega
  have kc4_0 : wc4.cell? ⟨gL_4, 0, none⟩ = some (.int .i64 (doAct v0 x1 y1 z1).1.book.room) := kL4.cell 0
  have kc4_1 : wc4.cell? ⟨gL_4, 1, none⟩ = some (.int .i64 (doAct v0 x1 y1 z1).1.book.start) := kL4.cell 1
  have kc4_2 : wc4.cell? ⟨gL_4, 2, none⟩ = some (.slice Ar0_4 (doAct v0 x1 y1 z1).1.book.evs.length cr0_4) := kL4.cell 2
  have kc4_3 : wc4.cell? ⟨gL_4, 3, none⟩ = some (.int .i64 (doAct v0 x1 y1 z1).1.book.level) := kL4.cell 3
  have kc4_4 : wc4.cell? ⟨gL_4, 4, none⟩ = some (.int .i64 (doAct v0 x1 y1 z1).1.book.rained) := kL4.cell 4
  have kc4_5 : wc4.cell? ⟨gL_4, 5, none⟩ = some (.int .i64 (doAct v0 x1 y1 z1).1.book.drunk) := kL4.cell 5
  have kc4_6 : wc4.cell? ⟨gL_4, 6, none⟩ = some (.int .i64 (doAct v0 x1 y1 z1).1.book.lost) := kL4.cell 6
  have kc4_7 : wc4.cell? ⟨gL_4, 7, none⟩ = some (.slice Rr0_4 (doAct v0 x1 y1 z1).1.rights.length dr0_4) := kL4.cell 7
  have og0_4_0_n := ho0_4
  have og0_4_1_n := ho1_4
  clear ow0_2_0_4 ow0_2_1_4 ot3_0_4 ot3_1_4 kb1_0_4 kb1_1_4 kb1_2_4 kb1_3_4 kb1_4_4 kb1_5_4 kb1_6_4 kb1_7_4 kb2_0_4 kb2_1_4 kb2_2_4 kb3_0_4 kb3_1_4 kb3_2_4 kb3_3_4 kb3_4_4 kb3_5_4 kb3_6_4 kb3_7_4 kb4_0_4 kb4_1_4 kb4_2_4 kb4_3_4 kb4_4_4 kb4_5_4 kb4_6_4 kb4_7_4 kL4 ho0_4 ho1_4
  go_wp2_with fail
  first | refine name_world ?_ | refine name_wp ?_
  intro W5 hW5
  have hp5 : Below wc4.heap.size wc4 W5 := by rw [hW5]; repeat' (first | (with_reducible exact Below.refl _ _) | (with_reducible refine Below.alloc ?_ ?_ _) | (with_reducible refine Below.setCell ?_ ?_ _) | (with_reducible refine Below.drew ?_) | (simp; done) | (simp; omega))
  have ow0_2_0_5 := Row2.below ow0_2_0_4' hp5 (by omega)
  have ow0_2_1_5 := Row2.below ow0_2_1_4' hp5 (by omega)
  have ot3_0_5 := Row2.below ot3_0_4' hp5 (by omega)
  have ot3_1_5 := Row2.below ot3_1_4' hp5 (by omega)
  have og0_4_0_5 := Row2.below og0_4_0_n hp5 (by omega)
  have og0_4_1_5 := Row2.below og0_4_1_n hp5 (by omega)
  have kb1_0_5 := (hp5.cell (p := ⟨w.heap.size, 0, none⟩) (by show w.heap.size < _; omega)).trans kb1_0_4'
  have kb1_1_5 := (hp5.cell (p := ⟨w.heap.size, 1, none⟩) (by show w.heap.size < _; omega)).trans kb1_1_4'
  have kb1_2_5 := (hp5.cell (p := ⟨w.heap.size, 2, none⟩) (by show w.heap.size < _; omega)).trans kb1_2_4'
  have kb1_3_5 := (hp5.cell (p := ⟨w.heap.size, 3, none⟩) (by show w.heap.size < _; omega)).trans kb1_3_4'
  have kb1_4_5 := (hp5.cell (p := ⟨w.heap.size, 4, none⟩) (by show w.heap.size < _; omega)).trans kb1_4_4'
  have kb1_5_5 := (hp5.cell (p := ⟨w.heap.size, 5, none⟩) (by show w.heap.size < _; omega)).trans kb1_5_4'
  have kb1_6_5 := (hp5.cell (p := ⟨w.heap.size, 6, none⟩) (by show w.heap.size < _; omega)).trans kb1_6_4'
  have kb1_7_5 := (hp5.cell (p := ⟨w.heap.size, 7, none⟩) (by show w.heap.size < _; omega)).trans kb1_7_4'
  have kb2_0_5 := (hp5.cell (p := ⟨w.heap.size + 1, 0, none⟩) (by show w.heap.size + 1 < _; omega)).trans kb2_0_4'
  have kb2_1_5 := (hp5.cell (p := ⟨w.heap.size + 1, 1, none⟩) (by show w.heap.size + 1 < _; omega)).trans kb2_1_4'
  have kb2_2_5 := (hp5.cell (p := ⟨w.heap.size + 1, 2, none⟩) (by show w.heap.size + 1 < _; omega)).trans kb2_2_4'
  have kb3_0_5 := (hp5.cell (p := ⟨gL_2, 0, none⟩) (by show gL_2 < _; omega)).trans kb3_0_4'
  have kb3_1_5 := (hp5.cell (p := ⟨gL_2, 1, none⟩) (by show gL_2 < _; omega)).trans kb3_1_4'
  have kb3_2_5 := (hp5.cell (p := ⟨gL_2, 2, none⟩) (by show gL_2 < _; omega)).trans kb3_2_4'
  have kb3_3_5 := (hp5.cell (p := ⟨gL_2, 3, none⟩) (by show gL_2 < _; omega)).trans kb3_3_4'
  have kb3_4_5 := (hp5.cell (p := ⟨gL_2, 4, none⟩) (by show gL_2 < _; omega)).trans kb3_4_4'
  have kb3_5_5 := (hp5.cell (p := ⟨gL_2, 5, none⟩) (by show gL_2 < _; omega)).trans kb3_5_4'
  have kb3_6_5 := (hp5.cell (p := ⟨gL_2, 6, none⟩) (by show gL_2 < _; omega)).trans kb3_6_4'
  have kb3_7_5 := (hp5.cell (p := ⟨gL_2, 7, none⟩) (by show gL_2 < _; omega)).trans kb3_7_4'
  have kb4_0_5 := (hp5.cell (p := ⟨w3.heap.size, 0, none⟩) (by show w3.heap.size < _; omega)).trans kb4_0_4'
  have kb4_1_5 := (hp5.cell (p := ⟨w3.heap.size, 1, none⟩) (by show w3.heap.size < _; omega)).trans kb4_1_4'
  have kb4_2_5 := (hp5.cell (p := ⟨w3.heap.size, 2, none⟩) (by show w3.heap.size < _; omega)).trans kb4_2_4'
  have kb4_3_5 := (hp5.cell (p := ⟨w3.heap.size, 3, none⟩) (by show w3.heap.size < _; omega)).trans kb4_3_4'
  have kb4_4_5 := (hp5.cell (p := ⟨w3.heap.size, 4, none⟩) (by show w3.heap.size < _; omega)).trans kb4_4_4'
  have kb4_5_5 := (hp5.cell (p := ⟨w3.heap.size, 5, none⟩) (by show w3.heap.size < _; omega)).trans kb4_5_4'
  have kb4_6_5 := (hp5.cell (p := ⟨w3.heap.size, 6, none⟩) (by show w3.heap.size < _; omega)).trans kb4_6_4'
  have kb4_7_5 := (hp5.cell (p := ⟨w3.heap.size, 7, none⟩) (by show w3.heap.size < _; omega)).trans kb4_7_4'
  have kb5_0_5 := (hp5.cell (p := ⟨gL_4, 0, none⟩) (by show gL_4 < _; omega)).trans kc4_0
  have kb5_1_5 := (hp5.cell (p := ⟨gL_4, 1, none⟩) (by show gL_4 < _; omega)).trans kc4_1
  have kb5_2_5 := (hp5.cell (p := ⟨gL_4, 2, none⟩) (by show gL_4 < _; omega)).trans kc4_2
  have kb5_3_5 := (hp5.cell (p := ⟨gL_4, 3, none⟩) (by show gL_4 < _; omega)).trans kc4_3
  have kb5_4_5 := (hp5.cell (p := ⟨gL_4, 4, none⟩) (by show gL_4 < _; omega)).trans kc4_4
  have kb5_5_5 := (hp5.cell (p := ⟨gL_4, 5, none⟩) (by show gL_4 < _; omega)).trans kc4_5
  have kb5_6_5 := (hp5.cell (p := ⟨gL_4, 6, none⟩) (by show gL_4 < _; omega)).trans kc4_6
  have kb5_7_5 := (hp5.cell (p := ⟨gL_4, 7, none⟩) (by show gL_4 < _; omega)).trans kc4_7
  have hB5 := hB4'.trans (hp5.mono hB4'.size)
  have hz5 : wc4.heap.size ≤ W5.heap.size := hp5.size
  have hl_b1_5 : w.heap.size < W5.heap.size := by omega
  have hl_b2_5 : w.heap.size + 1 < W5.heap.size := by omega
  have hl_b3_5 : gL_2 < W5.heap.size := by omega
  have hl_b4_5 : w3.heap.size < W5.heap.size := by omega
  have hl_b5_5 : gL_4 < W5.heap.size := by omega
  have HW5 := Lib.hid hW5; clear hW5
  clear ow0_2_0_4' ow0_2_1_4' ot3_0_4' ot3_1_4' og0_4_0_n og0_4_1_n kb1_0_4' kb1_1_4' kb1_2_4' kb1_3_4' kb1_4_4' kb1_5_4' kb1_6_4' kb1_7_4' kb2_0_4' kb2_1_4' kb2_2_4' kb3_0_4' kb3_1_4' kb3_2_4' kb3_3_4' kb3_4_4' kb3_5_4' kb3_6_4' kb3_7_4' kb4_0_4' kb4_1_4' kb4_2_4' kb4_3_4' kb4_4_4' kb4_5_4' kb4_6_4' kb4_7_4' kc4_0 kc4_1 kc4_2 kc4_3 kc4_4 kc4_5 kc4_6 kc4_7
  refine (eqVillage_same Ar0_4 cr0_4 Rr0_4 dr0_4 Ar0_2 cr0_2 Rr0_2 dr0_2 ((doAct v0 x1 y1 z1).1) _ og0_4_0_5.rd og0_4_1_5.rd ow0_2_0_5.rd ow0_2_1_5.rd).mono ?_
  rintro e w5 ⟨rfl, hb5⟩
  try simp only [Vg.val]
  have ow0_2_0_5' := Row2.below ow0_2_0_5 hb5 (by omega)
  have ow0_2_1_5' := Row2.below ow0_2_1_5 hb5 (by omega)
  have ot3_0_5' := Row2.below ot3_0_5 hb5 (by omega)
  have ot3_1_5' := Row2.below ot3_1_5 hb5 (by omega)
  have og0_4_0_5' := Row2.below og0_4_0_5 hb5 (by omega)
  have og0_4_1_5' := Row2.below og0_4_1_5 hb5 (by omega)
  have kb1_0_5' := (hb5.cell (p := ⟨w.heap.size, 0, none⟩) (by show w.heap.size < _; omega)).trans kb1_0_5
  have kb1_1_5' := (hb5.cell (p := ⟨w.heap.size, 1, none⟩) (by show w.heap.size < _; omega)).trans kb1_1_5
  have kb1_2_5' := (hb5.cell (p := ⟨w.heap.size, 2, none⟩) (by show w.heap.size < _; omega)).trans kb1_2_5
  have kb1_3_5' := (hb5.cell (p := ⟨w.heap.size, 3, none⟩) (by show w.heap.size < _; omega)).trans kb1_3_5
  have kb1_4_5' := (hb5.cell (p := ⟨w.heap.size, 4, none⟩) (by show w.heap.size < _; omega)).trans kb1_4_5
  have kb1_5_5' := (hb5.cell (p := ⟨w.heap.size, 5, none⟩) (by show w.heap.size < _; omega)).trans kb1_5_5
  have kb1_6_5' := (hb5.cell (p := ⟨w.heap.size, 6, none⟩) (by show w.heap.size < _; omega)).trans kb1_6_5
  have kb1_7_5' := (hb5.cell (p := ⟨w.heap.size, 7, none⟩) (by show w.heap.size < _; omega)).trans kb1_7_5
  have kb2_0_5' := (hb5.cell (p := ⟨w.heap.size + 1, 0, none⟩) (by show w.heap.size + 1 < _; omega)).trans kb2_0_5
  have kb2_1_5' := (hb5.cell (p := ⟨w.heap.size + 1, 1, none⟩) (by show w.heap.size + 1 < _; omega)).trans kb2_1_5
  have kb2_2_5' := (hb5.cell (p := ⟨w.heap.size + 1, 2, none⟩) (by show w.heap.size + 1 < _; omega)).trans kb2_2_5
  have kb3_0_5' := (hb5.cell (p := ⟨gL_2, 0, none⟩) (by show gL_2 < _; omega)).trans kb3_0_5
  have kb3_1_5' := (hb5.cell (p := ⟨gL_2, 1, none⟩) (by show gL_2 < _; omega)).trans kb3_1_5
  have kb3_2_5' := (hb5.cell (p := ⟨gL_2, 2, none⟩) (by show gL_2 < _; omega)).trans kb3_2_5
  have kb3_3_5' := (hb5.cell (p := ⟨gL_2, 3, none⟩) (by show gL_2 < _; omega)).trans kb3_3_5
  have kb3_4_5' := (hb5.cell (p := ⟨gL_2, 4, none⟩) (by show gL_2 < _; omega)).trans kb3_4_5
  have kb3_5_5' := (hb5.cell (p := ⟨gL_2, 5, none⟩) (by show gL_2 < _; omega)).trans kb3_5_5
  have kb3_6_5' := (hb5.cell (p := ⟨gL_2, 6, none⟩) (by show gL_2 < _; omega)).trans kb3_6_5
  have kb3_7_5' := (hb5.cell (p := ⟨gL_2, 7, none⟩) (by show gL_2 < _; omega)).trans kb3_7_5
  have kb4_0_5' := (hb5.cell (p := ⟨w3.heap.size, 0, none⟩) (by show w3.heap.size < _; omega)).trans kb4_0_5
  have kb4_1_5' := (hb5.cell (p := ⟨w3.heap.size, 1, none⟩) (by show w3.heap.size < _; omega)).trans kb4_1_5
  have kb4_2_5' := (hb5.cell (p := ⟨w3.heap.size, 2, none⟩) (by show w3.heap.size < _; omega)).trans kb4_2_5
  have kb4_3_5' := (hb5.cell (p := ⟨w3.heap.size, 3, none⟩) (by show w3.heap.size < _; omega)).trans kb4_3_5
  have kb4_4_5' := (hb5.cell (p := ⟨w3.heap.size, 4, none⟩) (by show w3.heap.size < _; omega)).trans kb4_4_5
  have kb4_5_5' := (hb5.cell (p := ⟨w3.heap.size, 5, none⟩) (by show w3.heap.size < _; omega)).trans kb4_5_5
  have kb4_6_5' := (hb5.cell (p := ⟨w3.heap.size, 6, none⟩) (by show w3.heap.size < _; omega)).trans kb4_6_5
  have kb4_7_5' := (hb5.cell (p := ⟨w3.heap.size, 7, none⟩) (by show w3.heap.size < _; omega)).trans kb4_7_5
  have kb5_0_5' := (hb5.cell (p := ⟨gL_4, 0, none⟩) (by show gL_4 < _; omega)).trans kb5_0_5
  have kb5_1_5' := (hb5.cell (p := ⟨gL_4, 1, none⟩) (by show gL_4 < _; omega)).trans kb5_1_5
  have kb5_2_5' := (hb5.cell (p := ⟨gL_4, 2, none⟩) (by show gL_4 < _; omega)).trans kb5_2_5
  have kb5_3_5' := (hb5.cell (p := ⟨gL_4, 3, none⟩) (by show gL_4 < _; omega)).trans kb5_3_5
  have kb5_4_5' := (hb5.cell (p := ⟨gL_4, 4, none⟩) (by show gL_4 < _; omega)).trans kb5_4_5
  have kb5_5_5' := (hb5.cell (p := ⟨gL_4, 5, none⟩) (by show gL_4 < _; omega)).trans kb5_5_5
  have kb5_6_5' := (hb5.cell (p := ⟨gL_4, 6, none⟩) (by show gL_4 < _; omega)).trans kb5_6_5
  have kb5_7_5' := (hb5.cell (p := ⟨gL_4, 7, none⟩) (by show gL_4 < _; omega)).trans kb5_7_5
  have hB5' := hB5.trans (hb5.mono hB5.size)
  have hz5' : W5.heap.size ≤ w5.heap.size := hb5.size
  have hl_b1_5' : w.heap.size < w5.heap.size := by omega
  have hl_b2_5' : w.heap.size + 1 < w5.heap.size := by omega
  have hl_b3_5' : gL_2 < w5.heap.size := by omega
  have hl_b4_5' : w3.heap.size < w5.heap.size := by omega
  have hl_b5_5' : gL_4 < w5.heap.size := by omega
  clear ow0_2_0_5 ow0_2_1_5 ot3_0_5 ot3_1_5 og0_4_0_5 og0_4_1_5 kb1_0_5 kb1_1_5 kb1_2_5 kb1_3_5 kb1_4_5 kb1_5_5 kb1_6_5 kb1_7_5 kb2_0_5 kb2_1_5 kb2_2_5 kb3_0_5 kb3_1_5 kb3_2_5 kb3_3_5 kb3_4_5 kb3_5_5 kb3_6_5 kb3_7_5 kb4_0_5 kb4_1_5 kb4_2_5 kb4_3_5 kb4_4_5 kb4_5_5 kb4_6_5 kb4_7_5 kb5_0_5 kb5_1_5 kb5_2_5 kb5_3_5 kb5_4_5 kb5_5_5 kb5_6_5 kb5_7_5
  go_wp2_with fail
  go_region_held3 (fun w' => w'.cell? ⟨w3.heap.size, 0, none⟩ = some (.int .i64 v0.book.room) ∧ w'.cell? ⟨w3.heap.size, 1, none⟩ = some (.int .i64 v0.book.start) ∧ w'.cell? ⟨w3.heap.size, 2, none⟩ = some (.slice A'3 v0.book.evs.length c'3) ∧ w'.cell? ⟨w3.heap.size, 3, none⟩ = some (.int .i64 v0.book.level) ∧ w'.cell? ⟨w3.heap.size, 4, none⟩ = some (.int .i64 v0.book.rained) ∧ w'.cell? ⟨w3.heap.size, 5, none⟩ = some (.int .i64 v0.book.drunk) ∧ w'.cell? ⟨w3.heap.size, 6, none⟩ = some (.int .i64 v0.book.lost) ∧ w'.cell? ⟨w3.heap.size, 7, none⟩ = some (.slice R'3 v0.rights.length d'3) ∧ w'.cell? ⟨w.heap.size, 0, none⟩ = some (.int .i64 v0.book.room) ∧ w'.cell? ⟨w.heap.size, 1, none⟩ = some (.int .i64 v0.book.start) ∧ w'.cell? ⟨w.heap.size, 2, none⟩ = some (.slice A0 v0.book.evs.length c0) ∧ w'.cell? ⟨w.heap.size, 3, none⟩ = some (.int .i64 v0.book.level) ∧ w'.cell? ⟨w.heap.size, 4, none⟩ = some (.int .i64 v0.book.rained) ∧ w'.cell? ⟨w.heap.size, 5, none⟩ = some (.int .i64 v0.book.drunk) ∧ w'.cell? ⟨w.heap.size, 6, none⟩ = some (.int .i64 v0.book.lost) ∧ w'.cell? ⟨w.heap.size, 7, none⟩ = some (.slice R0 v0.rights.length d0)) (first | (with_reducible exact ⟨sa0_6, sa1_6, sa2_6, sa3_6, sa4_6, sa5_6, sa6_6, sa7_6, sa8_6, sa9_6, sa10_6, sa11_6, sa12_6, sa13_6, sa14_6, sa15_6⟩) | (with_reducible exact ⟨sb0_7, sb1_7, sb2_7, sb3_7, sb4_7, sb5_7, sb6_7, sb7_7, sb8_7, sb9_7, sb10_7, sb11_7, sb12_7, sb13_7, sb14_7, sb15_7⟩) | exact ⟨kb4_0_5', kb4_1_5', kb4_2_5', kb4_3_5', kb4_4_5', kb4_5_5', kb4_6_5', kb4_7_5', kb1_0_5', kb1_1_5', kb1_2_5', kb1_3_5', kb1_4_5', kb1_5_5', kb1_6_5', kb1_7_5'⟩)
    (first | (go_at_call 8; refine (toVillage_any A0 c0 R0 d0 v0 _ (Rd.later h0_0 hB5'.drew) (Rd.later h0_1 hB5'.drew) hs0).mono ?_; rintro e w6 ⟨A'6, c'6, R'6, d'6, rfl, ho0_6, ho1_6, hb6⟩; try simp only [Vg.val]; have sa0_6 := (hb6.cell (p := ⟨w3.heap.size, 0, none⟩) (by show w3.heap.size < w5.heap.size; omega)).trans kb4_0_5'; have sa1_6 := (hb6.cell (p := ⟨w3.heap.size, 1, none⟩) (by show w3.heap.size < w5.heap.size; omega)).trans kb4_1_5'; have sa2_6 := (hb6.cell (p := ⟨w3.heap.size, 2, none⟩) (by show w3.heap.size < w5.heap.size; omega)).trans kb4_2_5'; have sa3_6 := (hb6.cell (p := ⟨w3.heap.size, 3, none⟩) (by show w3.heap.size < w5.heap.size; omega)).trans kb4_3_5'; have sa4_6 := (hb6.cell (p := ⟨w3.heap.size, 4, none⟩) (by show w3.heap.size < w5.heap.size; omega)).trans kb4_4_5'; have sa5_6 := (hb6.cell (p := ⟨w3.heap.size, 5, none⟩) (by show w3.heap.size < w5.heap.size; omega)).trans kb4_5_5'; have sa6_6 := (hb6.cell (p := ⟨w3.heap.size, 6, none⟩) (by show w3.heap.size < w5.heap.size; omega)).trans kb4_6_5'; have sa7_6 := (hb6.cell (p := ⟨w3.heap.size, 7, none⟩) (by show w3.heap.size < w5.heap.size; omega)).trans kb4_7_5'; have sa8_6 := (hb6.cell (p := ⟨w.heap.size, 0, none⟩) (by show w.heap.size < w5.heap.size; omega)).trans kb1_0_5'; have sa9_6 := (hb6.cell (p := ⟨w.heap.size, 1, none⟩) (by show w.heap.size < w5.heap.size; omega)).trans kb1_1_5'; have sa10_6 := (hb6.cell (p := ⟨w.heap.size, 2, none⟩) (by show w.heap.size < w5.heap.size; omega)).trans kb1_2_5'; have sa11_6 := (hb6.cell (p := ⟨w.heap.size, 3, none⟩) (by show w.heap.size < w5.heap.size; omega)).trans kb1_3_5'; have sa12_6 := (hb6.cell (p := ⟨w.heap.size, 4, none⟩) (by show w.heap.size < w5.heap.size; omega)).trans kb1_4_5'; have sa13_6 := (hb6.cell (p := ⟨w.heap.size, 5, none⟩) (by show w.heap.size < w5.heap.size; omega)).trans kb1_5_5'; have sa14_6 := (hb6.cell (p := ⟨w.heap.size, 6, none⟩) (by show w.heap.size < w5.heap.size; omega)).trans kb1_6_5'; have sa15_6 := (hb6.cell (p := ⟨w.heap.size, 7, none⟩) (by show w.heap.size < w5.heap.size; omega)).trans kb1_7_5') | (go_at_call 11; refine (eqVillage_same A'3 c'3 R'3 d'3 A'6 c'6 R'6 d'6 (v0) _ (Row2.below (Row2.drew ot3_0_5') hb6 (by show _ ≤ w5.heap.size; omega)).rd (Row2.below (Row2.drew ot3_1_5') hb6 (by show _ ≤ w5.heap.size; omega)).rd (Row2.born ho0_6).rd (Row2.born ho1_6).rd).mono ?_; rintro e w7 ⟨rfl, hb7⟩; have sb0_7 := (hb7.cell (p := ⟨w3.heap.size, 0, none⟩) (by show w3.heap.size < _; have := hb6.size; have : w5.heap.size ≤ w6.heap.size := this; omega)).trans sa0_6; have sb1_7 := (hb7.cell (p := ⟨w3.heap.size, 1, none⟩) (by show w3.heap.size < _; have := hb6.size; have : w5.heap.size ≤ w6.heap.size := this; omega)).trans sa1_6; have sb2_7 := (hb7.cell (p := ⟨w3.heap.size, 2, none⟩) (by show w3.heap.size < _; have := hb6.size; have : w5.heap.size ≤ w6.heap.size := this; omega)).trans sa2_6; have sb3_7 := (hb7.cell (p := ⟨w3.heap.size, 3, none⟩) (by show w3.heap.size < _; have := hb6.size; have : w5.heap.size ≤ w6.heap.size := this; omega)).trans sa3_6; have sb4_7 := (hb7.cell (p := ⟨w3.heap.size, 4, none⟩) (by show w3.heap.size < _; have := hb6.size; have : w5.heap.size ≤ w6.heap.size := this; omega)).trans sa4_6; have sb5_7 := (hb7.cell (p := ⟨w3.heap.size, 5, none⟩) (by show w3.heap.size < _; have := hb6.size; have : w5.heap.size ≤ w6.heap.size := this; omega)).trans sa5_6; have sb6_7 := (hb7.cell (p := ⟨w3.heap.size, 6, none⟩) (by show w3.heap.size < _; have := hb6.size; have : w5.heap.size ≤ w6.heap.size := this; omega)).trans sa6_6; have sb7_7 := (hb7.cell (p := ⟨w3.heap.size, 7, none⟩) (by show w3.heap.size < _; have := hb6.size; have : w5.heap.size ≤ w6.heap.size := this; omega)).trans sa7_6; have sb8_7 := (hb7.cell (p := ⟨w.heap.size, 0, none⟩) (by show w.heap.size < _; have := hb6.size; have : w5.heap.size ≤ w6.heap.size := this; omega)).trans sa8_6; have sb9_7 := (hb7.cell (p := ⟨w.heap.size, 1, none⟩) (by show w.heap.size < _; have := hb6.size; have : w5.heap.size ≤ w6.heap.size := this; omega)).trans sa9_6; have sb10_7 := (hb7.cell (p := ⟨w.heap.size, 2, none⟩) (by show w.heap.size < _; have := hb6.size; have : w5.heap.size ≤ w6.heap.size := this; omega)).trans sa10_6; have sb11_7 := (hb7.cell (p := ⟨w.heap.size, 3, none⟩) (by show w.heap.size < _; have := hb6.size; have : w5.heap.size ≤ w6.heap.size := this; omega)).trans sa11_6; have sb12_7 := (hb7.cell (p := ⟨w.heap.size, 4, none⟩) (by show w.heap.size < _; have := hb6.size; have : w5.heap.size ≤ w6.heap.size := this; omega)).trans sa12_6; have sb13_7 := (hb7.cell (p := ⟨w.heap.size, 5, none⟩) (by show w.heap.size < _; have := hb6.size; have : w5.heap.size ≤ w6.heap.size := this; omega)).trans sa13_6; have sb14_7 := (hb7.cell (p := ⟨w.heap.size, 6, none⟩) (by show w.heap.size < _; have := hb6.size; have : w5.heap.size ≤ w6.heap.size := this; omega)).trans sa14_6; have sb15_7 := (hb7.cell (p := ⟨w.heap.size, 7, none⟩) (by show w.heap.size < _; have := hb6.size; have : w5.heap.size ≤ w6.heap.size := this; omega)).trans sa15_6))
  have hb6d := below_of_drew hb6
  have ow0_2_0_6' := Row2.below ow0_2_0_5' hb6d (by omega)
  have ow0_2_1_6' := Row2.below ow0_2_1_5' hb6d (by omega)
  have ot3_0_6' := Row2.below ot3_0_5' hb6d (by omega)
  have ot3_1_6' := Row2.below ot3_1_5' hb6d (by omega)
  have og0_4_0_6' := Row2.below og0_4_0_5' hb6d (by omega)
  have og0_4_1_6' := Row2.below og0_4_1_5' hb6d (by omega)
  have kb1_0_6' := (hb6d.cell (p := ⟨w.heap.size, 0, none⟩) (by show w.heap.size < _; omega)).trans kb1_0_5'
  have kb1_1_6' := (hb6d.cell (p := ⟨w.heap.size, 1, none⟩) (by show w.heap.size < _; omega)).trans kb1_1_5'
  have kb1_2_6' := (hb6d.cell (p := ⟨w.heap.size, 2, none⟩) (by show w.heap.size < _; omega)).trans kb1_2_5'
  have kb1_3_6' := (hb6d.cell (p := ⟨w.heap.size, 3, none⟩) (by show w.heap.size < _; omega)).trans kb1_3_5'
  have kb1_4_6' := (hb6d.cell (p := ⟨w.heap.size, 4, none⟩) (by show w.heap.size < _; omega)).trans kb1_4_5'
  have kb1_5_6' := (hb6d.cell (p := ⟨w.heap.size, 5, none⟩) (by show w.heap.size < _; omega)).trans kb1_5_5'
  have kb1_6_6' := (hb6d.cell (p := ⟨w.heap.size, 6, none⟩) (by show w.heap.size < _; omega)).trans kb1_6_5'
  have kb1_7_6' := (hb6d.cell (p := ⟨w.heap.size, 7, none⟩) (by show w.heap.size < _; omega)).trans kb1_7_5'
  have kb2_0_6' := (hb6d.cell (p := ⟨w.heap.size + 1, 0, none⟩) (by show w.heap.size + 1 < _; omega)).trans kb2_0_5'
  have kb2_1_6' := (hb6d.cell (p := ⟨w.heap.size + 1, 1, none⟩) (by show w.heap.size + 1 < _; omega)).trans kb2_1_5'
  have kb2_2_6' := (hb6d.cell (p := ⟨w.heap.size + 1, 2, none⟩) (by show w.heap.size + 1 < _; omega)).trans kb2_2_5'
  have kb3_0_6' := (hb6d.cell (p := ⟨gL_2, 0, none⟩) (by show gL_2 < _; omega)).trans kb3_0_5'
  have kb3_1_6' := (hb6d.cell (p := ⟨gL_2, 1, none⟩) (by show gL_2 < _; omega)).trans kb3_1_5'
  have kb3_2_6' := (hb6d.cell (p := ⟨gL_2, 2, none⟩) (by show gL_2 < _; omega)).trans kb3_2_5'
  have kb3_3_6' := (hb6d.cell (p := ⟨gL_2, 3, none⟩) (by show gL_2 < _; omega)).trans kb3_3_5'
  have kb3_4_6' := (hb6d.cell (p := ⟨gL_2, 4, none⟩) (by show gL_2 < _; omega)).trans kb3_4_5'
  have kb3_5_6' := (hb6d.cell (p := ⟨gL_2, 5, none⟩) (by show gL_2 < _; omega)).trans kb3_5_5'
  have kb3_6_6' := (hb6d.cell (p := ⟨gL_2, 6, none⟩) (by show gL_2 < _; omega)).trans kb3_6_5'
  have kb3_7_6' := (hb6d.cell (p := ⟨gL_2, 7, none⟩) (by show gL_2 < _; omega)).trans kb3_7_5'
  have kb4_0_6' := (hb6d.cell (p := ⟨w3.heap.size, 0, none⟩) (by show w3.heap.size < _; omega)).trans kb4_0_5'
  have kb4_1_6' := (hb6d.cell (p := ⟨w3.heap.size, 1, none⟩) (by show w3.heap.size < _; omega)).trans kb4_1_5'
  have kb4_2_6' := (hb6d.cell (p := ⟨w3.heap.size, 2, none⟩) (by show w3.heap.size < _; omega)).trans kb4_2_5'
  have kb4_3_6' := (hb6d.cell (p := ⟨w3.heap.size, 3, none⟩) (by show w3.heap.size < _; omega)).trans kb4_3_5'
  have kb4_4_6' := (hb6d.cell (p := ⟨w3.heap.size, 4, none⟩) (by show w3.heap.size < _; omega)).trans kb4_4_5'
  have kb4_5_6' := (hb6d.cell (p := ⟨w3.heap.size, 5, none⟩) (by show w3.heap.size < _; omega)).trans kb4_5_5'
  have kb4_6_6' := (hb6d.cell (p := ⟨w3.heap.size, 6, none⟩) (by show w3.heap.size < _; omega)).trans kb4_6_5'
  have kb4_7_6' := (hb6d.cell (p := ⟨w3.heap.size, 7, none⟩) (by show w3.heap.size < _; omega)).trans kb4_7_5'
  have kb5_0_6' := (hb6d.cell (p := ⟨gL_4, 0, none⟩) (by show gL_4 < _; omega)).trans kb5_0_5'
  have kb5_1_6' := (hb6d.cell (p := ⟨gL_4, 1, none⟩) (by show gL_4 < _; omega)).trans kb5_1_5'
  have kb5_2_6' := (hb6d.cell (p := ⟨gL_4, 2, none⟩) (by show gL_4 < _; omega)).trans kb5_2_5'
  have kb5_3_6' := (hb6d.cell (p := ⟨gL_4, 3, none⟩) (by show gL_4 < _; omega)).trans kb5_3_5'
  have kb5_4_6' := (hb6d.cell (p := ⟨gL_4, 4, none⟩) (by show gL_4 < _; omega)).trans kb5_4_5'
  have kb5_5_6' := (hb6d.cell (p := ⟨gL_4, 5, none⟩) (by show gL_4 < _; omega)).trans kb5_5_5'
  have kb5_6_6' := (hb6d.cell (p := ⟨gL_4, 6, none⟩) (by show gL_4 < _; omega)).trans kb5_6_5'
  have kb5_7_6' := (hb6d.cell (p := ⟨gL_4, 7, none⟩) (by show gL_4 < _; omega)).trans kb5_7_5'
  have hB6' := hB5'.trans (hb6d.mono hB5'.size)
  have hz6' : w5.heap.size ≤ w6.heap.size := hb6d.size
  have hl_b1_6' : w.heap.size < w6.heap.size := by omega
  have hl_b2_6' : w.heap.size + 1 < w6.heap.size := by omega
  have hl_b3_6' : gL_2 < w6.heap.size := by omega
  have hl_b4_6' : w3.heap.size < w6.heap.size := by omega
  have hl_b5_6' : gL_4 < w6.heap.size := by omega
  have ow0_2_0_7' := Row2.below ow0_2_0_6' hb7 (by omega)
  have ow0_2_1_7' := Row2.below ow0_2_1_6' hb7 (by omega)
  have ot3_0_7' := Row2.below ot3_0_6' hb7 (by omega)
  have ot3_1_7' := Row2.below ot3_1_6' hb7 (by omega)
  have og0_4_0_7' := Row2.below og0_4_0_6' hb7 (by omega)
  have og0_4_1_7' := Row2.below og0_4_1_6' hb7 (by omega)
  have kb1_0_7' := (hb7.cell (p := ⟨w.heap.size, 0, none⟩) (by show w.heap.size < _; omega)).trans kb1_0_6'
  have kb1_1_7' := (hb7.cell (p := ⟨w.heap.size, 1, none⟩) (by show w.heap.size < _; omega)).trans kb1_1_6'
  have kb1_2_7' := (hb7.cell (p := ⟨w.heap.size, 2, none⟩) (by show w.heap.size < _; omega)).trans kb1_2_6'
  have kb1_3_7' := (hb7.cell (p := ⟨w.heap.size, 3, none⟩) (by show w.heap.size < _; omega)).trans kb1_3_6'
  have kb1_4_7' := (hb7.cell (p := ⟨w.heap.size, 4, none⟩) (by show w.heap.size < _; omega)).trans kb1_4_6'
  have kb1_5_7' := (hb7.cell (p := ⟨w.heap.size, 5, none⟩) (by show w.heap.size < _; omega)).trans kb1_5_6'
  have kb1_6_7' := (hb7.cell (p := ⟨w.heap.size, 6, none⟩) (by show w.heap.size < _; omega)).trans kb1_6_6'
  have kb1_7_7' := (hb7.cell (p := ⟨w.heap.size, 7, none⟩) (by show w.heap.size < _; omega)).trans kb1_7_6'
  have kb2_0_7' := (hb7.cell (p := ⟨w.heap.size + 1, 0, none⟩) (by show w.heap.size + 1 < _; omega)).trans kb2_0_6'
  have kb2_1_7' := (hb7.cell (p := ⟨w.heap.size + 1, 1, none⟩) (by show w.heap.size + 1 < _; omega)).trans kb2_1_6'
  have kb2_2_7' := (hb7.cell (p := ⟨w.heap.size + 1, 2, none⟩) (by show w.heap.size + 1 < _; omega)).trans kb2_2_6'
  have kb3_0_7' := (hb7.cell (p := ⟨gL_2, 0, none⟩) (by show gL_2 < _; omega)).trans kb3_0_6'
  have kb3_1_7' := (hb7.cell (p := ⟨gL_2, 1, none⟩) (by show gL_2 < _; omega)).trans kb3_1_6'
  have kb3_2_7' := (hb7.cell (p := ⟨gL_2, 2, none⟩) (by show gL_2 < _; omega)).trans kb3_2_6'
  have kb3_3_7' := (hb7.cell (p := ⟨gL_2, 3, none⟩) (by show gL_2 < _; omega)).trans kb3_3_6'
  have kb3_4_7' := (hb7.cell (p := ⟨gL_2, 4, none⟩) (by show gL_2 < _; omega)).trans kb3_4_6'
  have kb3_5_7' := (hb7.cell (p := ⟨gL_2, 5, none⟩) (by show gL_2 < _; omega)).trans kb3_5_6'
  have kb3_6_7' := (hb7.cell (p := ⟨gL_2, 6, none⟩) (by show gL_2 < _; omega)).trans kb3_6_6'
  have kb3_7_7' := (hb7.cell (p := ⟨gL_2, 7, none⟩) (by show gL_2 < _; omega)).trans kb3_7_6'
  have kb4_0_7' := (hb7.cell (p := ⟨w3.heap.size, 0, none⟩) (by show w3.heap.size < _; omega)).trans kb4_0_6'
  have kb4_1_7' := (hb7.cell (p := ⟨w3.heap.size, 1, none⟩) (by show w3.heap.size < _; omega)).trans kb4_1_6'
  have kb4_2_7' := (hb7.cell (p := ⟨w3.heap.size, 2, none⟩) (by show w3.heap.size < _; omega)).trans kb4_2_6'
  have kb4_3_7' := (hb7.cell (p := ⟨w3.heap.size, 3, none⟩) (by show w3.heap.size < _; omega)).trans kb4_3_6'
  have kb4_4_7' := (hb7.cell (p := ⟨w3.heap.size, 4, none⟩) (by show w3.heap.size < _; omega)).trans kb4_4_6'
  have kb4_5_7' := (hb7.cell (p := ⟨w3.heap.size, 5, none⟩) (by show w3.heap.size < _; omega)).trans kb4_5_6'
  have kb4_6_7' := (hb7.cell (p := ⟨w3.heap.size, 6, none⟩) (by show w3.heap.size < _; omega)).trans kb4_6_6'
  have kb4_7_7' := (hb7.cell (p := ⟨w3.heap.size, 7, none⟩) (by show w3.heap.size < _; omega)).trans kb4_7_6'
  have kb5_0_7' := (hb7.cell (p := ⟨gL_4, 0, none⟩) (by show gL_4 < _; omega)).trans kb5_0_6'
  have kb5_1_7' := (hb7.cell (p := ⟨gL_4, 1, none⟩) (by show gL_4 < _; omega)).trans kb5_1_6'
  have kb5_2_7' := (hb7.cell (p := ⟨gL_4, 2, none⟩) (by show gL_4 < _; omega)).trans kb5_2_6'
  have kb5_3_7' := (hb7.cell (p := ⟨gL_4, 3, none⟩) (by show gL_4 < _; omega)).trans kb5_3_6'
  have kb5_4_7' := (hb7.cell (p := ⟨gL_4, 4, none⟩) (by show gL_4 < _; omega)).trans kb5_4_6'
  have kb5_5_7' := (hb7.cell (p := ⟨gL_4, 5, none⟩) (by show gL_4 < _; omega)).trans kb5_5_6'
  have kb5_6_7' := (hb7.cell (p := ⟨gL_4, 6, none⟩) (by show gL_4 < _; omega)).trans kb5_6_6'
  have kb5_7_7' := (hb7.cell (p := ⟨gL_4, 7, none⟩) (by show gL_4 < _; omega)).trans kb5_7_6'
  have hB7' := hB6'.trans (hb7.mono hB6'.size)
  have hz7' : w6.heap.size ≤ w7.heap.size := hb7.size
  have hl_b1_7' : w.heap.size < w7.heap.size := by omega
  have hl_b2_7' : w.heap.size + 1 < w7.heap.size := by omega
  have hl_b3_7' : gL_2 < w7.heap.size := by omega
  have hl_b4_7' : w3.heap.size < w7.heap.size := by omega
  have hl_b5_7' : gL_4 < w7.heap.size := by omega
  clear sa0_6 sb0_7 sa1_6 sb1_7 sa2_6 sb2_7 sa3_6 sb3_7 sa4_6 sb4_7 sa5_6 sb5_7 sa6_6 sb6_7 sa7_6 sb7_7 sa8_6 sb8_7 sa9_6 sb9_7 sa10_6 sb10_7 sa11_6 sb11_7 sa12_6 sb12_7 sa13_6 sb13_7 sa14_6 sb14_7 sa15_6 sb15_7 ow0_2_0_5' ow0_2_1_5' ot3_0_5' ot3_1_5' og0_4_0_5' og0_4_1_5' kb1_0_5' kb1_1_5' kb1_2_5' kb1_3_5' kb1_4_5' kb1_5_5' kb1_6_5' kb1_7_5' kb2_0_5' kb2_1_5' kb2_2_5' kb3_0_5' kb3_1_5' kb3_2_5' kb3_3_5' kb3_4_5' kb3_5_5' kb3_6_5' kb3_7_5' kb4_0_5' kb4_1_5' kb4_2_5' kb4_3_5' kb4_4_5' kb4_5_5' kb4_6_5' kb4_7_5' kb5_0_5' kb5_1_5' kb5_2_5' kb5_3_5' kb5_4_5' kb5_5_5' kb5_6_5' kb5_7_5' ow0_2_0_6' ow0_2_1_6' ot3_0_6' ot3_1_6' og0_4_0_6' og0_4_1_6' kb1_0_6' kb1_1_6' kb1_2_6' kb1_3_6' kb1_4_6' kb1_5_6' kb1_6_6' kb1_7_6' kb2_0_6' kb2_1_6' kb2_2_6' kb3_0_6' kb3_1_6' kb3_2_6' kb3_3_6' kb3_4_6' kb3_5_6' kb3_6_6' kb3_7_6' kb4_0_6' kb4_1_6' kb4_2_6' kb4_3_6' kb4_4_6' kb4_5_6' kb4_6_6' kb4_7_6' kb5_0_6' kb5_1_6' kb5_2_6' kb5_3_6' kb5_4_6' kb5_5_6' kb5_6_6' kb5_7_6' ho0_6 ho1_6
  go_wp2_with fail
  first | refine name_world ?_ | refine name_wp ?_
  intro W8 hW8
  have hp8 : Below w7.heap.size w7 W8 := by rw [hW8]; repeat' (first | (with_reducible exact Below.refl _ _) | (with_reducible refine Below.alloc ?_ ?_ _) | (with_reducible refine Below.setCell ?_ ?_ _) | (with_reducible refine Below.drew ?_) | (simp; done) | (simp; omega))
  have ow0_2_0_8 := Row2.below ow0_2_0_7' hp8 (by omega)
  have ow0_2_1_8 := Row2.below ow0_2_1_7' hp8 (by omega)
  have ot3_0_8 := Row2.below ot3_0_7' hp8 (by omega)
  have ot3_1_8 := Row2.below ot3_1_7' hp8 (by omega)
  have og0_4_0_8 := Row2.below og0_4_0_7' hp8 (by omega)
  have og0_4_1_8 := Row2.below og0_4_1_7' hp8 (by omega)
  have kb1_0_8 := (hp8.cell (p := ⟨w.heap.size, 0, none⟩) (by show w.heap.size < _; omega)).trans kb1_0_7'
  have kb1_1_8 := (hp8.cell (p := ⟨w.heap.size, 1, none⟩) (by show w.heap.size < _; omega)).trans kb1_1_7'
  have kb1_2_8 := (hp8.cell (p := ⟨w.heap.size, 2, none⟩) (by show w.heap.size < _; omega)).trans kb1_2_7'
  have kb1_3_8 := (hp8.cell (p := ⟨w.heap.size, 3, none⟩) (by show w.heap.size < _; omega)).trans kb1_3_7'
  have kb1_4_8 := (hp8.cell (p := ⟨w.heap.size, 4, none⟩) (by show w.heap.size < _; omega)).trans kb1_4_7'
  have kb1_5_8 := (hp8.cell (p := ⟨w.heap.size, 5, none⟩) (by show w.heap.size < _; omega)).trans kb1_5_7'
  have kb1_6_8 := (hp8.cell (p := ⟨w.heap.size, 6, none⟩) (by show w.heap.size < _; omega)).trans kb1_6_7'
  have kb1_7_8 := (hp8.cell (p := ⟨w.heap.size, 7, none⟩) (by show w.heap.size < _; omega)).trans kb1_7_7'
  have kb2_0_8 := (hp8.cell (p := ⟨w.heap.size + 1, 0, none⟩) (by show w.heap.size + 1 < _; omega)).trans kb2_0_7'
  have kb2_1_8 := (hp8.cell (p := ⟨w.heap.size + 1, 1, none⟩) (by show w.heap.size + 1 < _; omega)).trans kb2_1_7'
  have kb2_2_8 := (hp8.cell (p := ⟨w.heap.size + 1, 2, none⟩) (by show w.heap.size + 1 < _; omega)).trans kb2_2_7'
  have kb3_0_8 := (hp8.cell (p := ⟨gL_2, 0, none⟩) (by show gL_2 < _; omega)).trans kb3_0_7'
  have kb3_1_8 := (hp8.cell (p := ⟨gL_2, 1, none⟩) (by show gL_2 < _; omega)).trans kb3_1_7'
  have kb3_2_8 := (hp8.cell (p := ⟨gL_2, 2, none⟩) (by show gL_2 < _; omega)).trans kb3_2_7'
  have kb3_3_8 := (hp8.cell (p := ⟨gL_2, 3, none⟩) (by show gL_2 < _; omega)).trans kb3_3_7'
  have kb3_4_8 := (hp8.cell (p := ⟨gL_2, 4, none⟩) (by show gL_2 < _; omega)).trans kb3_4_7'
  have kb3_5_8 := (hp8.cell (p := ⟨gL_2, 5, none⟩) (by show gL_2 < _; omega)).trans kb3_5_7'
  have kb3_6_8 := (hp8.cell (p := ⟨gL_2, 6, none⟩) (by show gL_2 < _; omega)).trans kb3_6_7'
  have kb3_7_8 := (hp8.cell (p := ⟨gL_2, 7, none⟩) (by show gL_2 < _; omega)).trans kb3_7_7'
  have kb4_0_8 := (hp8.cell (p := ⟨w3.heap.size, 0, none⟩) (by show w3.heap.size < _; omega)).trans kb4_0_7'
  have kb4_1_8 := (hp8.cell (p := ⟨w3.heap.size, 1, none⟩) (by show w3.heap.size < _; omega)).trans kb4_1_7'
  have kb4_2_8 := (hp8.cell (p := ⟨w3.heap.size, 2, none⟩) (by show w3.heap.size < _; omega)).trans kb4_2_7'
  have kb4_3_8 := (hp8.cell (p := ⟨w3.heap.size, 3, none⟩) (by show w3.heap.size < _; omega)).trans kb4_3_7'
  have kb4_4_8 := (hp8.cell (p := ⟨w3.heap.size, 4, none⟩) (by show w3.heap.size < _; omega)).trans kb4_4_7'
  have kb4_5_8 := (hp8.cell (p := ⟨w3.heap.size, 5, none⟩) (by show w3.heap.size < _; omega)).trans kb4_5_7'
  have kb4_6_8 := (hp8.cell (p := ⟨w3.heap.size, 6, none⟩) (by show w3.heap.size < _; omega)).trans kb4_6_7'
  have kb4_7_8 := (hp8.cell (p := ⟨w3.heap.size, 7, none⟩) (by show w3.heap.size < _; omega)).trans kb4_7_7'
  have kb5_0_8 := (hp8.cell (p := ⟨gL_4, 0, none⟩) (by show gL_4 < _; omega)).trans kb5_0_7'
  have kb5_1_8 := (hp8.cell (p := ⟨gL_4, 1, none⟩) (by show gL_4 < _; omega)).trans kb5_1_7'
  have kb5_2_8 := (hp8.cell (p := ⟨gL_4, 2, none⟩) (by show gL_4 < _; omega)).trans kb5_2_7'
  have kb5_3_8 := (hp8.cell (p := ⟨gL_4, 3, none⟩) (by show gL_4 < _; omega)).trans kb5_3_7'
  have kb5_4_8 := (hp8.cell (p := ⟨gL_4, 4, none⟩) (by show gL_4 < _; omega)).trans kb5_4_7'
  have kb5_5_8 := (hp8.cell (p := ⟨gL_4, 5, none⟩) (by show gL_4 < _; omega)).trans kb5_5_7'
  have kb5_6_8 := (hp8.cell (p := ⟨gL_4, 6, none⟩) (by show gL_4 < _; omega)).trans kb5_6_7'
  have kb5_7_8 := (hp8.cell (p := ⟨gL_4, 7, none⟩) (by show gL_4 < _; omega)).trans kb5_7_7'
  have hB8 := hB7'.trans (hp8.mono hB7'.size)
  have hz8 : w7.heap.size ≤ W8.heap.size := hp8.size
  have hl_b1_8 : w.heap.size < W8.heap.size := by omega
  have hl_b2_8 : w.heap.size + 1 < W8.heap.size := by omega
  have hl_b3_8 : gL_2 < W8.heap.size := by omega
  have hl_b4_8 : w3.heap.size < W8.heap.size := by omega
  have hl_b5_8 : gL_4 < W8.heap.size := by omega
  have HW8 := Lib.hid hW8; clear hW8
  clear ow0_2_0_7' ow0_2_1_7' ot3_0_7' ot3_1_7' og0_4_0_7' og0_4_1_7' kb1_0_7' kb1_1_7' kb1_2_7' kb1_3_7' kb1_4_7' kb1_5_7' kb1_6_7' kb1_7_7' kb2_0_7' kb2_1_7' kb2_2_7' kb3_0_7' kb3_1_7' kb3_2_7' kb3_3_7' kb3_4_7' kb3_5_7' kb3_6_7' kb3_7_7' kb4_0_7' kb4_1_7' kb4_2_7' kb4_3_7' kb4_4_7' kb4_5_7' kb4_6_7' kb4_7_7' kb5_0_7' kb5_1_7' kb5_2_7' kb5_3_7' kb5_4_7' kb5_5_7' kb5_6_7' kb5_7_7'
  refine (markVillage_2 A'3 c'3 R'3 d'3 _ _ (v0) (1) _ (by omega) _ ot3_0_8 ot3_1_8 (by first | omega | (simp; omega))).mono ?_
  rintro e w8 ⟨rfl, hm0_8, hm1_8, hc8⟩
  try simp only [Vg.val]
  have ow0_2_0_8' := Row2.chg ow0_2_0_8 hc8 (by omega)
  have ow0_2_1_8' := Row2.chg ow0_2_1_8 hc8 (by omega)
  have og0_4_0_8' := Row2.chg og0_4_0_8 hc8 (by omega)
  have og0_4_1_8' := Row2.chg og0_4_1_8 hc8 (by omega)
  have kb1_0_8' := (Chg.cell hc8 (p := ⟨w.heap.size, 0, none⟩) (by show w.heap.size < _; omega) (by show w.heap.size < _ ∨ _ ≤ w.heap.size; omega)).trans kb1_0_8
  have kb1_1_8' := (Chg.cell hc8 (p := ⟨w.heap.size, 1, none⟩) (by show w.heap.size < _; omega) (by show w.heap.size < _ ∨ _ ≤ w.heap.size; omega)).trans kb1_1_8
  have kb1_2_8' := (Chg.cell hc8 (p := ⟨w.heap.size, 2, none⟩) (by show w.heap.size < _; omega) (by show w.heap.size < _ ∨ _ ≤ w.heap.size; omega)).trans kb1_2_8
  have kb1_3_8' := (Chg.cell hc8 (p := ⟨w.heap.size, 3, none⟩) (by show w.heap.size < _; omega) (by show w.heap.size < _ ∨ _ ≤ w.heap.size; omega)).trans kb1_3_8
  have kb1_4_8' := (Chg.cell hc8 (p := ⟨w.heap.size, 4, none⟩) (by show w.heap.size < _; omega) (by show w.heap.size < _ ∨ _ ≤ w.heap.size; omega)).trans kb1_4_8
  have kb1_5_8' := (Chg.cell hc8 (p := ⟨w.heap.size, 5, none⟩) (by show w.heap.size < _; omega) (by show w.heap.size < _ ∨ _ ≤ w.heap.size; omega)).trans kb1_5_8
  have kb1_6_8' := (Chg.cell hc8 (p := ⟨w.heap.size, 6, none⟩) (by show w.heap.size < _; omega) (by show w.heap.size < _ ∨ _ ≤ w.heap.size; omega)).trans kb1_6_8
  have kb1_7_8' := (Chg.cell hc8 (p := ⟨w.heap.size, 7, none⟩) (by show w.heap.size < _; omega) (by show w.heap.size < _ ∨ _ ≤ w.heap.size; omega)).trans kb1_7_8
  have kb2_0_8' := (Chg.cell hc8 (p := ⟨w.heap.size + 1, 0, none⟩) (by show w.heap.size + 1 < _; omega) (by show w.heap.size + 1 < _ ∨ _ ≤ w.heap.size + 1; omega)).trans kb2_0_8
  have kb2_1_8' := (Chg.cell hc8 (p := ⟨w.heap.size + 1, 1, none⟩) (by show w.heap.size + 1 < _; omega) (by show w.heap.size + 1 < _ ∨ _ ≤ w.heap.size + 1; omega)).trans kb2_1_8
  have kb2_2_8' := (Chg.cell hc8 (p := ⟨w.heap.size + 1, 2, none⟩) (by show w.heap.size + 1 < _; omega) (by show w.heap.size + 1 < _ ∨ _ ≤ w.heap.size + 1; omega)).trans kb2_2_8
  have kb3_0_8' := (Chg.cell hc8 (p := ⟨gL_2, 0, none⟩) (by show gL_2 < _; omega) (by show gL_2 < _ ∨ _ ≤ gL_2; omega)).trans kb3_0_8
  have kb3_1_8' := (Chg.cell hc8 (p := ⟨gL_2, 1, none⟩) (by show gL_2 < _; omega) (by show gL_2 < _ ∨ _ ≤ gL_2; omega)).trans kb3_1_8
  have kb3_2_8' := (Chg.cell hc8 (p := ⟨gL_2, 2, none⟩) (by show gL_2 < _; omega) (by show gL_2 < _ ∨ _ ≤ gL_2; omega)).trans kb3_2_8
  have kb3_3_8' := (Chg.cell hc8 (p := ⟨gL_2, 3, none⟩) (by show gL_2 < _; omega) (by show gL_2 < _ ∨ _ ≤ gL_2; omega)).trans kb3_3_8
  have kb3_4_8' := (Chg.cell hc8 (p := ⟨gL_2, 4, none⟩) (by show gL_2 < _; omega) (by show gL_2 < _ ∨ _ ≤ gL_2; omega)).trans kb3_4_8
  have kb3_5_8' := (Chg.cell hc8 (p := ⟨gL_2, 5, none⟩) (by show gL_2 < _; omega) (by show gL_2 < _ ∨ _ ≤ gL_2; omega)).trans kb3_5_8
  have kb3_6_8' := (Chg.cell hc8 (p := ⟨gL_2, 6, none⟩) (by show gL_2 < _; omega) (by show gL_2 < _ ∨ _ ≤ gL_2; omega)).trans kb3_6_8
  have kb3_7_8' := (Chg.cell hc8 (p := ⟨gL_2, 7, none⟩) (by show gL_2 < _; omega) (by show gL_2 < _ ∨ _ ≤ gL_2; omega)).trans kb3_7_8
  have kb4_0_8' := (Chg.cell hc8 (p := ⟨w3.heap.size, 0, none⟩) (by show w3.heap.size < _; omega) (by show w3.heap.size < _ ∨ _ ≤ w3.heap.size; omega)).trans kb4_0_8
  have kb4_1_8' := (Chg.cell hc8 (p := ⟨w3.heap.size, 1, none⟩) (by show w3.heap.size < _; omega) (by show w3.heap.size < _ ∨ _ ≤ w3.heap.size; omega)).trans kb4_1_8
  have kb4_2_8' := (Chg.cell hc8 (p := ⟨w3.heap.size, 2, none⟩) (by show w3.heap.size < _; omega) (by show w3.heap.size < _ ∨ _ ≤ w3.heap.size; omega)).trans kb4_2_8
  have kb4_3_8' := (Chg.cell hc8 (p := ⟨w3.heap.size, 3, none⟩) (by show w3.heap.size < _; omega) (by show w3.heap.size < _ ∨ _ ≤ w3.heap.size; omega)).trans kb4_3_8
  have kb4_4_8' := (Chg.cell hc8 (p := ⟨w3.heap.size, 4, none⟩) (by show w3.heap.size < _; omega) (by show w3.heap.size < _ ∨ _ ≤ w3.heap.size; omega)).trans kb4_4_8
  have kb4_5_8' := (Chg.cell hc8 (p := ⟨w3.heap.size, 5, none⟩) (by show w3.heap.size < _; omega) (by show w3.heap.size < _ ∨ _ ≤ w3.heap.size; omega)).trans kb4_5_8
  have kb4_6_8' := (Chg.cell hc8 (p := ⟨w3.heap.size, 6, none⟩) (by show w3.heap.size < _; omega) (by show w3.heap.size < _ ∨ _ ≤ w3.heap.size; omega)).trans kb4_6_8
  have kb4_7_8' := (Chg.cell hc8 (p := ⟨w3.heap.size, 7, none⟩) (by show w3.heap.size < _; omega) (by show w3.heap.size < _ ∨ _ ≤ w3.heap.size; omega)).trans kb4_7_8
  have kb5_0_8' := (Chg.cell hc8 (p := ⟨gL_4, 0, none⟩) (by show gL_4 < _; omega) (by show gL_4 < _ ∨ _ ≤ gL_4; omega)).trans kb5_0_8
  have kb5_1_8' := (Chg.cell hc8 (p := ⟨gL_4, 1, none⟩) (by show gL_4 < _; omega) (by show gL_4 < _ ∨ _ ≤ gL_4; omega)).trans kb5_1_8
  have kb5_2_8' := (Chg.cell hc8 (p := ⟨gL_4, 2, none⟩) (by show gL_4 < _; omega) (by show gL_4 < _ ∨ _ ≤ gL_4; omega)).trans kb5_2_8
  have kb5_3_8' := (Chg.cell hc8 (p := ⟨gL_4, 3, none⟩) (by show gL_4 < _; omega) (by show gL_4 < _ ∨ _ ≤ gL_4; omega)).trans kb5_3_8
  have kb5_4_8' := (Chg.cell hc8 (p := ⟨gL_4, 4, none⟩) (by show gL_4 < _; omega) (by show gL_4 < _ ∨ _ ≤ gL_4; omega)).trans kb5_4_8
  have kb5_5_8' := (Chg.cell hc8 (p := ⟨gL_4, 5, none⟩) (by show gL_4 < _; omega) (by show gL_4 < _ ∨ _ ≤ gL_4; omega)).trans kb5_5_8
  have kb5_6_8' := (Chg.cell hc8 (p := ⟨gL_4, 6, none⟩) (by show gL_4 < _; omega) (by show gL_4 < _ ∨ _ ≤ gL_4; omega)).trans kb5_6_8
  have kb5_7_8' := (Chg.cell hc8 (p := ⟨gL_4, 7, none⟩) (by show gL_4 < _; omega) (by show gL_4 < _ ∨ _ ≤ gL_4; omega)).trans kb5_7_8
  have hB8' := Chg.below hB8 hc8 (by omega) hB8.size
  have hz8' : W8.heap.size ≤ w8.heap.size := hc8.size
  have hl_b1_8' : w.heap.size < w8.heap.size := by omega
  have hl_b2_8' : w.heap.size + 1 < w8.heap.size := by omega
  have hl_b3_8' : gL_2 < w8.heap.size := by omega
  have hl_b4_8' : w3.heap.size < w8.heap.size := by omega
  have hl_b5_8' : gL_4 < w8.heap.size := by omega
  clear ow0_2_0_8 ow0_2_1_8 ot3_0_8 ot3_1_8 og0_4_0_8 og0_4_1_8 kb1_0_8 kb1_1_8 kb1_2_8 kb1_3_8 kb1_4_8 kb1_5_8 kb1_6_8 kb1_7_8 kb2_0_8 kb2_1_8 kb2_2_8 kb3_0_8 kb3_1_8 kb3_2_8 kb3_3_8 kb3_4_8 kb3_5_8 kb3_6_8 kb3_7_8 kb4_0_8 kb4_1_8 kb4_2_8 kb4_3_8 kb4_4_8 kb4_5_8 kb4_6_8 kb4_7_8 kb5_0_8 kb5_1_8 kb5_2_8 kb5_3_8 kb5_4_8 kb5_5_8 kb5_6_8 kb5_7_8
  go_wp2_with fail
  first | refine name_world ?_ | refine name_wp ?_
  intro W9 hW9
  have hp9 : Below w8.heap.size w8 W9 := by rw [hW9]; repeat' (first | (with_reducible exact Below.refl _ _) | (with_reducible refine Below.alloc ?_ ?_ _) | (with_reducible refine Below.setCell ?_ ?_ _) | (with_reducible refine Below.drew ?_) | (simp; done) | (simp; omega))
  have ow0_2_0_9 := Row2.below ow0_2_0_8' hp9 (by omega)
  have ow0_2_1_9 := Row2.below ow0_2_1_8' hp9 (by omega)
  have ot3_0_9 := Row2.below hm0_8 hp9 (by omega)
  have ot3_1_9 := Row2.below hm1_8 hp9 (by omega)
  have og0_4_0_9 := Row2.below og0_4_0_8' hp9 (by omega)
  have og0_4_1_9 := Row2.below og0_4_1_8' hp9 (by omega)
  have kb1_0_9 := (hp9.cell (p := ⟨w.heap.size, 0, none⟩) (by show w.heap.size < _; omega)).trans kb1_0_8'
  have kb1_1_9 := (hp9.cell (p := ⟨w.heap.size, 1, none⟩) (by show w.heap.size < _; omega)).trans kb1_1_8'
  have kb1_2_9 := (hp9.cell (p := ⟨w.heap.size, 2, none⟩) (by show w.heap.size < _; omega)).trans kb1_2_8'
  have kb1_3_9 := (hp9.cell (p := ⟨w.heap.size, 3, none⟩) (by show w.heap.size < _; omega)).trans kb1_3_8'
  have kb1_4_9 := (hp9.cell (p := ⟨w.heap.size, 4, none⟩) (by show w.heap.size < _; omega)).trans kb1_4_8'
  have kb1_5_9 := (hp9.cell (p := ⟨w.heap.size, 5, none⟩) (by show w.heap.size < _; omega)).trans kb1_5_8'
  have kb1_6_9 := (hp9.cell (p := ⟨w.heap.size, 6, none⟩) (by show w.heap.size < _; omega)).trans kb1_6_8'
  have kb1_7_9 := (hp9.cell (p := ⟨w.heap.size, 7, none⟩) (by show w.heap.size < _; omega)).trans kb1_7_8'
  have kb2_0_9 := (hp9.cell (p := ⟨w.heap.size + 1, 0, none⟩) (by show w.heap.size + 1 < _; omega)).trans kb2_0_8'
  have kb2_1_9 := (hp9.cell (p := ⟨w.heap.size + 1, 1, none⟩) (by show w.heap.size + 1 < _; omega)).trans kb2_1_8'
  have kb2_2_9 := (hp9.cell (p := ⟨w.heap.size + 1, 2, none⟩) (by show w.heap.size + 1 < _; omega)).trans kb2_2_8'
  have kb3_0_9 := (hp9.cell (p := ⟨gL_2, 0, none⟩) (by show gL_2 < _; omega)).trans kb3_0_8'
  have kb3_1_9 := (hp9.cell (p := ⟨gL_2, 1, none⟩) (by show gL_2 < _; omega)).trans kb3_1_8'
  have kb3_2_9 := (hp9.cell (p := ⟨gL_2, 2, none⟩) (by show gL_2 < _; omega)).trans kb3_2_8'
  have kb3_3_9 := (hp9.cell (p := ⟨gL_2, 3, none⟩) (by show gL_2 < _; omega)).trans kb3_3_8'
  have kb3_4_9 := (hp9.cell (p := ⟨gL_2, 4, none⟩) (by show gL_2 < _; omega)).trans kb3_4_8'
  have kb3_5_9 := (hp9.cell (p := ⟨gL_2, 5, none⟩) (by show gL_2 < _; omega)).trans kb3_5_8'
  have kb3_6_9 := (hp9.cell (p := ⟨gL_2, 6, none⟩) (by show gL_2 < _; omega)).trans kb3_6_8'
  have kb3_7_9 := (hp9.cell (p := ⟨gL_2, 7, none⟩) (by show gL_2 < _; omega)).trans kb3_7_8'
  have kb4_0_9 := (hp9.cell (p := ⟨w3.heap.size, 0, none⟩) (by show w3.heap.size < _; omega)).trans kb4_0_8'
  have kb4_1_9 := (hp9.cell (p := ⟨w3.heap.size, 1, none⟩) (by show w3.heap.size < _; omega)).trans kb4_1_8'
  have kb4_2_9 := (hp9.cell (p := ⟨w3.heap.size, 2, none⟩) (by show w3.heap.size < _; omega)).trans kb4_2_8'
  have kb4_3_9 := (hp9.cell (p := ⟨w3.heap.size, 3, none⟩) (by show w3.heap.size < _; omega)).trans kb4_3_8'
  have kb4_4_9 := (hp9.cell (p := ⟨w3.heap.size, 4, none⟩) (by show w3.heap.size < _; omega)).trans kb4_4_8'
  have kb4_5_9 := (hp9.cell (p := ⟨w3.heap.size, 5, none⟩) (by show w3.heap.size < _; omega)).trans kb4_5_8'
  have kb4_6_9 := (hp9.cell (p := ⟨w3.heap.size, 6, none⟩) (by show w3.heap.size < _; omega)).trans kb4_6_8'
  have kb4_7_9 := (hp9.cell (p := ⟨w3.heap.size, 7, none⟩) (by show w3.heap.size < _; omega)).trans kb4_7_8'
  have kb5_0_9 := (hp9.cell (p := ⟨gL_4, 0, none⟩) (by show gL_4 < _; omega)).trans kb5_0_8'
  have kb5_1_9 := (hp9.cell (p := ⟨gL_4, 1, none⟩) (by show gL_4 < _; omega)).trans kb5_1_8'
  have kb5_2_9 := (hp9.cell (p := ⟨gL_4, 2, none⟩) (by show gL_4 < _; omega)).trans kb5_2_8'
  have kb5_3_9 := (hp9.cell (p := ⟨gL_4, 3, none⟩) (by show gL_4 < _; omega)).trans kb5_3_8'
  have kb5_4_9 := (hp9.cell (p := ⟨gL_4, 4, none⟩) (by show gL_4 < _; omega)).trans kb5_4_8'
  have kb5_5_9 := (hp9.cell (p := ⟨gL_4, 5, none⟩) (by show gL_4 < _; omega)).trans kb5_5_8'
  have kb5_6_9 := (hp9.cell (p := ⟨gL_4, 6, none⟩) (by show gL_4 < _; omega)).trans kb5_6_8'
  have kb5_7_9 := (hp9.cell (p := ⟨gL_4, 7, none⟩) (by show gL_4 < _; omega)).trans kb5_7_8'
  have hB9 := hB8'.trans (hp9.mono hB8'.size)
  have hz9 : w8.heap.size ≤ W9.heap.size := hp9.size
  have hl_b1_9 : w.heap.size < W9.heap.size := by omega
  have hl_b2_9 : w.heap.size + 1 < W9.heap.size := by omega
  have hl_b3_9 : gL_2 < W9.heap.size := by omega
  have hl_b4_9 : w3.heap.size < W9.heap.size := by omega
  have hl_b5_9 : gL_4 < W9.heap.size := by omega
  have HW9 := Lib.hid hW9; clear hW9
  clear ow0_2_0_8' ow0_2_1_8' hm0_8 hm1_8 og0_4_0_8' og0_4_1_8' kb1_0_8' kb1_1_8' kb1_2_8' kb1_3_8' kb1_4_8' kb1_5_8' kb1_6_8' kb1_7_8' kb2_0_8' kb2_1_8' kb2_2_8' kb3_0_8' kb3_1_8' kb3_2_8' kb3_3_8' kb3_4_8' kb3_5_8' kb3_6_8' kb3_7_8' kb4_0_8' kb4_1_8' kb4_2_8' kb4_3_8' kb4_4_8' kb4_5_8' kb4_6_8' kb4_7_8' kb5_0_8' kb5_1_8' kb5_2_8' kb5_3_8' kb5_4_8' kb5_5_8' kb5_6_8' kb5_7_8'
  refine (eqVillage_same Ar0_4 cr0_4 Rr0_4 dr0_4 Ar0_2 cr0_2 Rr0_2 dr0_2 ((doAct v0 x1 y1 z1).1) _ og0_4_0_9.rd og0_4_1_9.rd ow0_2_0_9.rd ow0_2_1_9.rd).mono ?_
  rintro e w9 ⟨rfl, hb9⟩
  try simp only [Vg.val]
  have ow0_2_0_9' := Row2.below ow0_2_0_9 hb9 (by omega)
  have ow0_2_1_9' := Row2.below ow0_2_1_9 hb9 (by omega)
  have ot3_0_9' := Row2.below ot3_0_9 hb9 (by omega)
  have ot3_1_9' := Row2.below ot3_1_9 hb9 (by omega)
  have og0_4_0_9' := Row2.below og0_4_0_9 hb9 (by omega)
  have og0_4_1_9' := Row2.below og0_4_1_9 hb9 (by omega)
  have kb1_0_9' := (hb9.cell (p := ⟨w.heap.size, 0, none⟩) (by show w.heap.size < _; omega)).trans kb1_0_9
  have kb1_1_9' := (hb9.cell (p := ⟨w.heap.size, 1, none⟩) (by show w.heap.size < _; omega)).trans kb1_1_9
  have kb1_2_9' := (hb9.cell (p := ⟨w.heap.size, 2, none⟩) (by show w.heap.size < _; omega)).trans kb1_2_9
  have kb1_3_9' := (hb9.cell (p := ⟨w.heap.size, 3, none⟩) (by show w.heap.size < _; omega)).trans kb1_3_9
  have kb1_4_9' := (hb9.cell (p := ⟨w.heap.size, 4, none⟩) (by show w.heap.size < _; omega)).trans kb1_4_9
  have kb1_5_9' := (hb9.cell (p := ⟨w.heap.size, 5, none⟩) (by show w.heap.size < _; omega)).trans kb1_5_9
  have kb1_6_9' := (hb9.cell (p := ⟨w.heap.size, 6, none⟩) (by show w.heap.size < _; omega)).trans kb1_6_9
  have kb1_7_9' := (hb9.cell (p := ⟨w.heap.size, 7, none⟩) (by show w.heap.size < _; omega)).trans kb1_7_9
  have kb2_0_9' := (hb9.cell (p := ⟨w.heap.size + 1, 0, none⟩) (by show w.heap.size + 1 < _; omega)).trans kb2_0_9
  have kb2_1_9' := (hb9.cell (p := ⟨w.heap.size + 1, 1, none⟩) (by show w.heap.size + 1 < _; omega)).trans kb2_1_9
  have kb2_2_9' := (hb9.cell (p := ⟨w.heap.size + 1, 2, none⟩) (by show w.heap.size + 1 < _; omega)).trans kb2_2_9
  have kb3_0_9' := (hb9.cell (p := ⟨gL_2, 0, none⟩) (by show gL_2 < _; omega)).trans kb3_0_9
  have kb3_1_9' := (hb9.cell (p := ⟨gL_2, 1, none⟩) (by show gL_2 < _; omega)).trans kb3_1_9
  have kb3_2_9' := (hb9.cell (p := ⟨gL_2, 2, none⟩) (by show gL_2 < _; omega)).trans kb3_2_9
  have kb3_3_9' := (hb9.cell (p := ⟨gL_2, 3, none⟩) (by show gL_2 < _; omega)).trans kb3_3_9
  have kb3_4_9' := (hb9.cell (p := ⟨gL_2, 4, none⟩) (by show gL_2 < _; omega)).trans kb3_4_9
  have kb3_5_9' := (hb9.cell (p := ⟨gL_2, 5, none⟩) (by show gL_2 < _; omega)).trans kb3_5_9
  have kb3_6_9' := (hb9.cell (p := ⟨gL_2, 6, none⟩) (by show gL_2 < _; omega)).trans kb3_6_9
  have kb3_7_9' := (hb9.cell (p := ⟨gL_2, 7, none⟩) (by show gL_2 < _; omega)).trans kb3_7_9
  have kb4_0_9' := (hb9.cell (p := ⟨w3.heap.size, 0, none⟩) (by show w3.heap.size < _; omega)).trans kb4_0_9
  have kb4_1_9' := (hb9.cell (p := ⟨w3.heap.size, 1, none⟩) (by show w3.heap.size < _; omega)).trans kb4_1_9
  have kb4_2_9' := (hb9.cell (p := ⟨w3.heap.size, 2, none⟩) (by show w3.heap.size < _; omega)).trans kb4_2_9
  have kb4_3_9' := (hb9.cell (p := ⟨w3.heap.size, 3, none⟩) (by show w3.heap.size < _; omega)).trans kb4_3_9
  have kb4_4_9' := (hb9.cell (p := ⟨w3.heap.size, 4, none⟩) (by show w3.heap.size < _; omega)).trans kb4_4_9
  have kb4_5_9' := (hb9.cell (p := ⟨w3.heap.size, 5, none⟩) (by show w3.heap.size < _; omega)).trans kb4_5_9
  have kb4_6_9' := (hb9.cell (p := ⟨w3.heap.size, 6, none⟩) (by show w3.heap.size < _; omega)).trans kb4_6_9
  have kb4_7_9' := (hb9.cell (p := ⟨w3.heap.size, 7, none⟩) (by show w3.heap.size < _; omega)).trans kb4_7_9
  have kb5_0_9' := (hb9.cell (p := ⟨gL_4, 0, none⟩) (by show gL_4 < _; omega)).trans kb5_0_9
  have kb5_1_9' := (hb9.cell (p := ⟨gL_4, 1, none⟩) (by show gL_4 < _; omega)).trans kb5_1_9
  have kb5_2_9' := (hb9.cell (p := ⟨gL_4, 2, none⟩) (by show gL_4 < _; omega)).trans kb5_2_9
  have kb5_3_9' := (hb9.cell (p := ⟨gL_4, 3, none⟩) (by show gL_4 < _; omega)).trans kb5_3_9
  have kb5_4_9' := (hb9.cell (p := ⟨gL_4, 4, none⟩) (by show gL_4 < _; omega)).trans kb5_4_9
  have kb5_5_9' := (hb9.cell (p := ⟨gL_4, 5, none⟩) (by show gL_4 < _; omega)).trans kb5_5_9
  have kb5_6_9' := (hb9.cell (p := ⟨gL_4, 6, none⟩) (by show gL_4 < _; omega)).trans kb5_6_9
  have kb5_7_9' := (hb9.cell (p := ⟨gL_4, 7, none⟩) (by show gL_4 < _; omega)).trans kb5_7_9
  have hB9' := hB9.trans (hb9.mono hB9.size)
  have hz9' : W9.heap.size ≤ w9.heap.size := hb9.size
  have hl_b1_9' : w.heap.size < w9.heap.size := by omega
  have hl_b2_9' : w.heap.size + 1 < w9.heap.size := by omega
  have hl_b3_9' : gL_2 < w9.heap.size := by omega
  have hl_b4_9' : w3.heap.size < w9.heap.size := by omega
  have hl_b5_9' : gL_4 < w9.heap.size := by omega
  clear ow0_2_0_9 ow0_2_1_9 ot3_0_9 ot3_1_9 og0_4_0_9 og0_4_1_9 kb1_0_9 kb1_1_9 kb1_2_9 kb1_3_9 kb1_4_9 kb1_5_9 kb1_6_9 kb1_7_9 kb2_0_9 kb2_1_9 kb2_2_9 kb3_0_9 kb3_1_9 kb3_2_9 kb3_3_9 kb3_4_9 kb3_5_9 kb3_6_9 kb3_7_9 kb4_0_9 kb4_1_9 kb4_2_9 kb4_3_9 kb4_4_9 kb4_5_9 kb4_6_9 kb4_7_9 kb5_0_9 kb5_1_9 kb5_2_9 kb5_3_9 kb5_4_9 kb5_5_9 kb5_6_9 kb5_7_9
  go_wp2_with fail
  first | refine name_world ?_ | refine name_wp ?_
  intro W10 hW10
  have hp10 : Below w9.heap.size w9 W10 := by rw [hW10]; repeat' (first | (with_reducible exact Below.refl _ _) | (with_reducible refine Below.alloc ?_ ?_ _) | (with_reducible refine Below.setCell ?_ ?_ _) | (with_reducible refine Below.drew ?_) | (simp; done) | (simp; omega))
  have ow0_2_0_10 := Row2.below ow0_2_0_9' hp10 (by omega)
  have ow0_2_1_10 := Row2.below ow0_2_1_9' hp10 (by omega)
  have ot3_0_10 := Row2.below ot3_0_9' hp10 (by omega)
  have ot3_1_10 := Row2.below ot3_1_9' hp10 (by omega)
  have og0_4_0_10 := Row2.below og0_4_0_9' hp10 (by omega)
  have og0_4_1_10 := Row2.below og0_4_1_9' hp10 (by omega)
  have kb1_0_10 := (hp10.cell (p := ⟨w.heap.size, 0, none⟩) (by show w.heap.size < _; omega)).trans kb1_0_9'
  have kb1_1_10 := (hp10.cell (p := ⟨w.heap.size, 1, none⟩) (by show w.heap.size < _; omega)).trans kb1_1_9'
  have kb1_2_10 := (hp10.cell (p := ⟨w.heap.size, 2, none⟩) (by show w.heap.size < _; omega)).trans kb1_2_9'
  have kb1_3_10 := (hp10.cell (p := ⟨w.heap.size, 3, none⟩) (by show w.heap.size < _; omega)).trans kb1_3_9'
  have kb1_4_10 := (hp10.cell (p := ⟨w.heap.size, 4, none⟩) (by show w.heap.size < _; omega)).trans kb1_4_9'
  have kb1_5_10 := (hp10.cell (p := ⟨w.heap.size, 5, none⟩) (by show w.heap.size < _; omega)).trans kb1_5_9'
  have kb1_6_10 := (hp10.cell (p := ⟨w.heap.size, 6, none⟩) (by show w.heap.size < _; omega)).trans kb1_6_9'
  have kb1_7_10 := (hp10.cell (p := ⟨w.heap.size, 7, none⟩) (by show w.heap.size < _; omega)).trans kb1_7_9'
  have kb2_0_10 := (hp10.cell (p := ⟨w.heap.size + 1, 0, none⟩) (by show w.heap.size + 1 < _; omega)).trans kb2_0_9'
  have kb2_1_10 := (hp10.cell (p := ⟨w.heap.size + 1, 1, none⟩) (by show w.heap.size + 1 < _; omega)).trans kb2_1_9'
  have kb2_2_10 := (hp10.cell (p := ⟨w.heap.size + 1, 2, none⟩) (by show w.heap.size + 1 < _; omega)).trans kb2_2_9'
  have kb3_0_10 := (hp10.cell (p := ⟨gL_2, 0, none⟩) (by show gL_2 < _; omega)).trans kb3_0_9'
  have kb3_1_10 := (hp10.cell (p := ⟨gL_2, 1, none⟩) (by show gL_2 < _; omega)).trans kb3_1_9'
  have kb3_2_10 := (hp10.cell (p := ⟨gL_2, 2, none⟩) (by show gL_2 < _; omega)).trans kb3_2_9'
  have kb3_3_10 := (hp10.cell (p := ⟨gL_2, 3, none⟩) (by show gL_2 < _; omega)).trans kb3_3_9'
  have kb3_4_10 := (hp10.cell (p := ⟨gL_2, 4, none⟩) (by show gL_2 < _; omega)).trans kb3_4_9'
  have kb3_5_10 := (hp10.cell (p := ⟨gL_2, 5, none⟩) (by show gL_2 < _; omega)).trans kb3_5_9'
  have kb3_6_10 := (hp10.cell (p := ⟨gL_2, 6, none⟩) (by show gL_2 < _; omega)).trans kb3_6_9'
  have kb3_7_10 := (hp10.cell (p := ⟨gL_2, 7, none⟩) (by show gL_2 < _; omega)).trans kb3_7_9'
  have kb4_0_10 := (hp10.cell (p := ⟨w3.heap.size, 0, none⟩) (by show w3.heap.size < _; omega)).trans kb4_0_9'
  have kb4_1_10 := (hp10.cell (p := ⟨w3.heap.size, 1, none⟩) (by show w3.heap.size < _; omega)).trans kb4_1_9'
  have kb4_2_10 := (hp10.cell (p := ⟨w3.heap.size, 2, none⟩) (by show w3.heap.size < _; omega)).trans kb4_2_9'
  have kb4_3_10 := (hp10.cell (p := ⟨w3.heap.size, 3, none⟩) (by show w3.heap.size < _; omega)).trans kb4_3_9'
  have kb4_4_10 := (hp10.cell (p := ⟨w3.heap.size, 4, none⟩) (by show w3.heap.size < _; omega)).trans kb4_4_9'
  have kb4_5_10 := (hp10.cell (p := ⟨w3.heap.size, 5, none⟩) (by show w3.heap.size < _; omega)).trans kb4_5_9'
  have kb4_6_10 := (hp10.cell (p := ⟨w3.heap.size, 6, none⟩) (by show w3.heap.size < _; omega)).trans kb4_6_9'
  have kb4_7_10 := (hp10.cell (p := ⟨w3.heap.size, 7, none⟩) (by show w3.heap.size < _; omega)).trans kb4_7_9'
  have kb5_0_10 := (hp10.cell (p := ⟨gL_4, 0, none⟩) (by show gL_4 < _; omega)).trans kb5_0_9'
  have kb5_1_10 := (hp10.cell (p := ⟨gL_4, 1, none⟩) (by show gL_4 < _; omega)).trans kb5_1_9'
  have kb5_2_10 := (hp10.cell (p := ⟨gL_4, 2, none⟩) (by show gL_4 < _; omega)).trans kb5_2_9'
  have kb5_3_10 := (hp10.cell (p := ⟨gL_4, 3, none⟩) (by show gL_4 < _; omega)).trans kb5_3_9'
  have kb5_4_10 := (hp10.cell (p := ⟨gL_4, 4, none⟩) (by show gL_4 < _; omega)).trans kb5_4_9'
  have kb5_5_10 := (hp10.cell (p := ⟨gL_4, 5, none⟩) (by show gL_4 < _; omega)).trans kb5_5_9'
  have kb5_6_10 := (hp10.cell (p := ⟨gL_4, 6, none⟩) (by show gL_4 < _; omega)).trans kb5_6_9'
  have kb5_7_10 := (hp10.cell (p := ⟨gL_4, 7, none⟩) (by show gL_4 < _; omega)).trans kb5_7_9'
  have hB10 := hB9'.trans (hp10.mono hB9'.size)
  have hz10 : w9.heap.size ≤ W10.heap.size := hp10.size
  have hl_b1_10 : w.heap.size < W10.heap.size := by omega
  have hl_b2_10 : w.heap.size + 1 < W10.heap.size := by omega
  have hl_b3_10 : gL_2 < W10.heap.size := by omega
  have hl_b4_10 : w3.heap.size < W10.heap.size := by omega
  have hl_b5_10 : gL_4 < W10.heap.size := by omega
  have HW10 := Lib.hid hW10; clear hW10
  clear ow0_2_0_9' ow0_2_1_9' ot3_0_9' ot3_1_9' og0_4_0_9' og0_4_1_9' kb1_0_9' kb1_1_9' kb1_2_9' kb1_3_9' kb1_4_9' kb1_5_9' kb1_6_9' kb1_7_9' kb2_0_9' kb2_1_9' kb2_2_9' kb3_0_9' kb3_1_9' kb3_2_9' kb3_3_9' kb3_4_9' kb3_5_9' kb3_6_9' kb3_7_9' kb4_0_9' kb4_1_9' kb4_2_9' kb4_3_9' kb4_4_9' kb4_5_9' kb4_6_9' kb4_7_9' kb5_0_9' kb5_1_9' kb5_2_9' kb5_3_9' kb5_4_9' kb5_5_9' kb5_6_9' kb5_7_9'
  refine (markVillage_2 Ar0_4 cr0_4 Rr0_4 dr0_4 _ _ ((doAct v0 x1 y1 z1).1) (1) _ (by omega) _ og0_4_0_10 og0_4_1_10 (by first | omega | (simp; omega))).mono ?_
  rintro e w10 ⟨rfl, hm0_10, hm1_10, hc10⟩
  try simp only [Vg.val]
  have ow0_2_0_10' := Row2.chg ow0_2_0_10 hc10 (by omega)
  have ow0_2_1_10' := Row2.chg ow0_2_1_10 hc10 (by omega)
  have ot3_0_10' := Row2.chg ot3_0_10 hc10 (by omega)
  have ot3_1_10' := Row2.chg ot3_1_10 hc10 (by omega)
  have kb1_0_10' := (Chg.cell hc10 (p := ⟨w.heap.size, 0, none⟩) (by show w.heap.size < _; omega) (by show w.heap.size < _ ∨ _ ≤ w.heap.size; omega)).trans kb1_0_10
  have kb1_1_10' := (Chg.cell hc10 (p := ⟨w.heap.size, 1, none⟩) (by show w.heap.size < _; omega) (by show w.heap.size < _ ∨ _ ≤ w.heap.size; omega)).trans kb1_1_10
  have kb1_2_10' := (Chg.cell hc10 (p := ⟨w.heap.size, 2, none⟩) (by show w.heap.size < _; omega) (by show w.heap.size < _ ∨ _ ≤ w.heap.size; omega)).trans kb1_2_10
  have kb1_3_10' := (Chg.cell hc10 (p := ⟨w.heap.size, 3, none⟩) (by show w.heap.size < _; omega) (by show w.heap.size < _ ∨ _ ≤ w.heap.size; omega)).trans kb1_3_10
  have kb1_4_10' := (Chg.cell hc10 (p := ⟨w.heap.size, 4, none⟩) (by show w.heap.size < _; omega) (by show w.heap.size < _ ∨ _ ≤ w.heap.size; omega)).trans kb1_4_10
  have kb1_5_10' := (Chg.cell hc10 (p := ⟨w.heap.size, 5, none⟩) (by show w.heap.size < _; omega) (by show w.heap.size < _ ∨ _ ≤ w.heap.size; omega)).trans kb1_5_10
  have kb1_6_10' := (Chg.cell hc10 (p := ⟨w.heap.size, 6, none⟩) (by show w.heap.size < _; omega) (by show w.heap.size < _ ∨ _ ≤ w.heap.size; omega)).trans kb1_6_10
  have kb1_7_10' := (Chg.cell hc10 (p := ⟨w.heap.size, 7, none⟩) (by show w.heap.size < _; omega) (by show w.heap.size < _ ∨ _ ≤ w.heap.size; omega)).trans kb1_7_10
  have kb2_0_10' := (Chg.cell hc10 (p := ⟨w.heap.size + 1, 0, none⟩) (by show w.heap.size + 1 < _; omega) (by show w.heap.size + 1 < _ ∨ _ ≤ w.heap.size + 1; omega)).trans kb2_0_10
  have kb2_1_10' := (Chg.cell hc10 (p := ⟨w.heap.size + 1, 1, none⟩) (by show w.heap.size + 1 < _; omega) (by show w.heap.size + 1 < _ ∨ _ ≤ w.heap.size + 1; omega)).trans kb2_1_10
  have kb2_2_10' := (Chg.cell hc10 (p := ⟨w.heap.size + 1, 2, none⟩) (by show w.heap.size + 1 < _; omega) (by show w.heap.size + 1 < _ ∨ _ ≤ w.heap.size + 1; omega)).trans kb2_2_10
  have kb3_0_10' := (Chg.cell hc10 (p := ⟨gL_2, 0, none⟩) (by show gL_2 < _; omega) (by show gL_2 < _ ∨ _ ≤ gL_2; omega)).trans kb3_0_10
  have kb3_1_10' := (Chg.cell hc10 (p := ⟨gL_2, 1, none⟩) (by show gL_2 < _; omega) (by show gL_2 < _ ∨ _ ≤ gL_2; omega)).trans kb3_1_10
  have kb3_2_10' := (Chg.cell hc10 (p := ⟨gL_2, 2, none⟩) (by show gL_2 < _; omega) (by show gL_2 < _ ∨ _ ≤ gL_2; omega)).trans kb3_2_10
  have kb3_3_10' := (Chg.cell hc10 (p := ⟨gL_2, 3, none⟩) (by show gL_2 < _; omega) (by show gL_2 < _ ∨ _ ≤ gL_2; omega)).trans kb3_3_10
  have kb3_4_10' := (Chg.cell hc10 (p := ⟨gL_2, 4, none⟩) (by show gL_2 < _; omega) (by show gL_2 < _ ∨ _ ≤ gL_2; omega)).trans kb3_4_10
  have kb3_5_10' := (Chg.cell hc10 (p := ⟨gL_2, 5, none⟩) (by show gL_2 < _; omega) (by show gL_2 < _ ∨ _ ≤ gL_2; omega)).trans kb3_5_10
  have kb3_6_10' := (Chg.cell hc10 (p := ⟨gL_2, 6, none⟩) (by show gL_2 < _; omega) (by show gL_2 < _ ∨ _ ≤ gL_2; omega)).trans kb3_6_10
  have kb3_7_10' := (Chg.cell hc10 (p := ⟨gL_2, 7, none⟩) (by show gL_2 < _; omega) (by show gL_2 < _ ∨ _ ≤ gL_2; omega)).trans kb3_7_10
  have kb4_0_10' := (Chg.cell hc10 (p := ⟨w3.heap.size, 0, none⟩) (by show w3.heap.size < _; omega) (by show w3.heap.size < _ ∨ _ ≤ w3.heap.size; omega)).trans kb4_0_10
  have kb4_1_10' := (Chg.cell hc10 (p := ⟨w3.heap.size, 1, none⟩) (by show w3.heap.size < _; omega) (by show w3.heap.size < _ ∨ _ ≤ w3.heap.size; omega)).trans kb4_1_10
  have kb4_2_10' := (Chg.cell hc10 (p := ⟨w3.heap.size, 2, none⟩) (by show w3.heap.size < _; omega) (by show w3.heap.size < _ ∨ _ ≤ w3.heap.size; omega)).trans kb4_2_10
  have kb4_3_10' := (Chg.cell hc10 (p := ⟨w3.heap.size, 3, none⟩) (by show w3.heap.size < _; omega) (by show w3.heap.size < _ ∨ _ ≤ w3.heap.size; omega)).trans kb4_3_10
  have kb4_4_10' := (Chg.cell hc10 (p := ⟨w3.heap.size, 4, none⟩) (by show w3.heap.size < _; omega) (by show w3.heap.size < _ ∨ _ ≤ w3.heap.size; omega)).trans kb4_4_10
  have kb4_5_10' := (Chg.cell hc10 (p := ⟨w3.heap.size, 5, none⟩) (by show w3.heap.size < _; omega) (by show w3.heap.size < _ ∨ _ ≤ w3.heap.size; omega)).trans kb4_5_10
  have kb4_6_10' := (Chg.cell hc10 (p := ⟨w3.heap.size, 6, none⟩) (by show w3.heap.size < _; omega) (by show w3.heap.size < _ ∨ _ ≤ w3.heap.size; omega)).trans kb4_6_10
  have kb4_7_10' := (Chg.cell hc10 (p := ⟨w3.heap.size, 7, none⟩) (by show w3.heap.size < _; omega) (by show w3.heap.size < _ ∨ _ ≤ w3.heap.size; omega)).trans kb4_7_10
  have kb5_0_10' := (Chg.cell hc10 (p := ⟨gL_4, 0, none⟩) (by show gL_4 < _; omega) (by show gL_4 < _ ∨ _ ≤ gL_4; omega)).trans kb5_0_10
  have kb5_1_10' := (Chg.cell hc10 (p := ⟨gL_4, 1, none⟩) (by show gL_4 < _; omega) (by show gL_4 < _ ∨ _ ≤ gL_4; omega)).trans kb5_1_10
  have kb5_2_10' := (Chg.cell hc10 (p := ⟨gL_4, 2, none⟩) (by show gL_4 < _; omega) (by show gL_4 < _ ∨ _ ≤ gL_4; omega)).trans kb5_2_10
  have kb5_3_10' := (Chg.cell hc10 (p := ⟨gL_4, 3, none⟩) (by show gL_4 < _; omega) (by show gL_4 < _ ∨ _ ≤ gL_4; omega)).trans kb5_3_10
  have kb5_4_10' := (Chg.cell hc10 (p := ⟨gL_4, 4, none⟩) (by show gL_4 < _; omega) (by show gL_4 < _ ∨ _ ≤ gL_4; omega)).trans kb5_4_10
  have kb5_5_10' := (Chg.cell hc10 (p := ⟨gL_4, 5, none⟩) (by show gL_4 < _; omega) (by show gL_4 < _ ∨ _ ≤ gL_4; omega)).trans kb5_5_10
  have kb5_6_10' := (Chg.cell hc10 (p := ⟨gL_4, 6, none⟩) (by show gL_4 < _; omega) (by show gL_4 < _ ∨ _ ≤ gL_4; omega)).trans kb5_6_10
  have kb5_7_10' := (Chg.cell hc10 (p := ⟨gL_4, 7, none⟩) (by show gL_4 < _; omega) (by show gL_4 < _ ∨ _ ≤ gL_4; omega)).trans kb5_7_10
  have hB10' := Chg.below hB10 hc10 (by omega) hB10.size
  have hz10' : W10.heap.size ≤ w10.heap.size := hc10.size
  have hl_b1_10' : w.heap.size < w10.heap.size := by omega
  have hl_b2_10' : w.heap.size + 1 < w10.heap.size := by omega
  have hl_b3_10' : gL_2 < w10.heap.size := by omega
  have hl_b4_10' : w3.heap.size < w10.heap.size := by omega
  have hl_b5_10' : gL_4 < w10.heap.size := by omega
  clear ow0_2_0_10 ow0_2_1_10 ot3_0_10 ot3_1_10 og0_4_0_10 og0_4_1_10 kb1_0_10 kb1_1_10 kb1_2_10 kb1_3_10 kb1_4_10 kb1_5_10 kb1_6_10 kb1_7_10 kb2_0_10 kb2_1_10 kb2_2_10 kb3_0_10 kb3_1_10 kb3_2_10 kb3_3_10 kb3_4_10 kb3_5_10 kb3_6_10 kb3_7_10 kb4_0_10 kb4_1_10 kb4_2_10 kb4_3_10 kb4_4_10 kb4_5_10 kb4_6_10 kb4_7_10 kb5_0_10 kb5_1_10 kb5_2_10 kb5_3_10 kb5_4_10 kb5_5_10 kb5_6_10 kb5_7_10
  go_wp2_with fail
  first | refine name_world ?_ | refine name_wp ?_
  intro W11 hW11
  have hp11 : Below w10.heap.size w10 W11 := by rw [hW11]; repeat' (first | (with_reducible exact Below.refl _ _) | (with_reducible refine Below.alloc ?_ ?_ _) | (with_reducible refine Below.setCell ?_ ?_ _) | (with_reducible refine Below.drew ?_) | (simp; done) | (simp; omega))
  have ow0_2_0_11 := Row2.below ow0_2_0_10' hp11 (by omega)
  have ow0_2_1_11 := Row2.below ow0_2_1_10' hp11 (by omega)
  have ot3_0_11 := Row2.below ot3_0_10' hp11 (by omega)
  have ot3_1_11 := Row2.below ot3_1_10' hp11 (by omega)
  have og0_4_0_11 := Row2.below hm0_10 hp11 (by omega)
  have og0_4_1_11 := Row2.below hm1_10 hp11 (by omega)
  have kb1_0_11 := (hp11.cell (p := ⟨w.heap.size, 0, none⟩) (by show w.heap.size < _; omega)).trans kb1_0_10'
  have kb1_1_11 := (hp11.cell (p := ⟨w.heap.size, 1, none⟩) (by show w.heap.size < _; omega)).trans kb1_1_10'
  have kb1_2_11 := (hp11.cell (p := ⟨w.heap.size, 2, none⟩) (by show w.heap.size < _; omega)).trans kb1_2_10'
  have kb1_3_11 := (hp11.cell (p := ⟨w.heap.size, 3, none⟩) (by show w.heap.size < _; omega)).trans kb1_3_10'
  have kb1_4_11 := (hp11.cell (p := ⟨w.heap.size, 4, none⟩) (by show w.heap.size < _; omega)).trans kb1_4_10'
  have kb1_5_11 := (hp11.cell (p := ⟨w.heap.size, 5, none⟩) (by show w.heap.size < _; omega)).trans kb1_5_10'
  have kb1_6_11 := (hp11.cell (p := ⟨w.heap.size, 6, none⟩) (by show w.heap.size < _; omega)).trans kb1_6_10'
  have kb1_7_11 := (hp11.cell (p := ⟨w.heap.size, 7, none⟩) (by show w.heap.size < _; omega)).trans kb1_7_10'
  have kb2_0_11 := (hp11.cell (p := ⟨w.heap.size + 1, 0, none⟩) (by show w.heap.size + 1 < _; omega)).trans kb2_0_10'
  have kb2_1_11 := (hp11.cell (p := ⟨w.heap.size + 1, 1, none⟩) (by show w.heap.size + 1 < _; omega)).trans kb2_1_10'
  have kb2_2_11 := (hp11.cell (p := ⟨w.heap.size + 1, 2, none⟩) (by show w.heap.size + 1 < _; omega)).trans kb2_2_10'
  have kb3_0_11 := (hp11.cell (p := ⟨gL_2, 0, none⟩) (by show gL_2 < _; omega)).trans kb3_0_10'
  have kb3_1_11 := (hp11.cell (p := ⟨gL_2, 1, none⟩) (by show gL_2 < _; omega)).trans kb3_1_10'
  have kb3_2_11 := (hp11.cell (p := ⟨gL_2, 2, none⟩) (by show gL_2 < _; omega)).trans kb3_2_10'
  have kb3_3_11 := (hp11.cell (p := ⟨gL_2, 3, none⟩) (by show gL_2 < _; omega)).trans kb3_3_10'
  have kb3_4_11 := (hp11.cell (p := ⟨gL_2, 4, none⟩) (by show gL_2 < _; omega)).trans kb3_4_10'
  have kb3_5_11 := (hp11.cell (p := ⟨gL_2, 5, none⟩) (by show gL_2 < _; omega)).trans kb3_5_10'
  have kb3_6_11 := (hp11.cell (p := ⟨gL_2, 6, none⟩) (by show gL_2 < _; omega)).trans kb3_6_10'
  have kb3_7_11 := (hp11.cell (p := ⟨gL_2, 7, none⟩) (by show gL_2 < _; omega)).trans kb3_7_10'
  have kb4_0_11 := (hp11.cell (p := ⟨w3.heap.size, 0, none⟩) (by show w3.heap.size < _; omega)).trans kb4_0_10'
  have kb4_1_11 := (hp11.cell (p := ⟨w3.heap.size, 1, none⟩) (by show w3.heap.size < _; omega)).trans kb4_1_10'
  have kb4_2_11 := (hp11.cell (p := ⟨w3.heap.size, 2, none⟩) (by show w3.heap.size < _; omega)).trans kb4_2_10'
  have kb4_3_11 := (hp11.cell (p := ⟨w3.heap.size, 3, none⟩) (by show w3.heap.size < _; omega)).trans kb4_3_10'
  have kb4_4_11 := (hp11.cell (p := ⟨w3.heap.size, 4, none⟩) (by show w3.heap.size < _; omega)).trans kb4_4_10'
  have kb4_5_11 := (hp11.cell (p := ⟨w3.heap.size, 5, none⟩) (by show w3.heap.size < _; omega)).trans kb4_5_10'
  have kb4_6_11 := (hp11.cell (p := ⟨w3.heap.size, 6, none⟩) (by show w3.heap.size < _; omega)).trans kb4_6_10'
  have kb4_7_11 := (hp11.cell (p := ⟨w3.heap.size, 7, none⟩) (by show w3.heap.size < _; omega)).trans kb4_7_10'
  have kb5_0_11 := (hp11.cell (p := ⟨gL_4, 0, none⟩) (by show gL_4 < _; omega)).trans kb5_0_10'
  have kb5_1_11 := (hp11.cell (p := ⟨gL_4, 1, none⟩) (by show gL_4 < _; omega)).trans kb5_1_10'
  have kb5_2_11 := (hp11.cell (p := ⟨gL_4, 2, none⟩) (by show gL_4 < _; omega)).trans kb5_2_10'
  have kb5_3_11 := (hp11.cell (p := ⟨gL_4, 3, none⟩) (by show gL_4 < _; omega)).trans kb5_3_10'
  have kb5_4_11 := (hp11.cell (p := ⟨gL_4, 4, none⟩) (by show gL_4 < _; omega)).trans kb5_4_10'
  have kb5_5_11 := (hp11.cell (p := ⟨gL_4, 5, none⟩) (by show gL_4 < _; omega)).trans kb5_5_10'
  have kb5_6_11 := (hp11.cell (p := ⟨gL_4, 6, none⟩) (by show gL_4 < _; omega)).trans kb5_6_10'
  have kb5_7_11 := (hp11.cell (p := ⟨gL_4, 7, none⟩) (by show gL_4 < _; omega)).trans kb5_7_10'
  have hB11 := hB10'.trans (hp11.mono hB10'.size)
  have hz11 : w10.heap.size ≤ W11.heap.size := hp11.size
  have hl_b1_11 : w.heap.size < W11.heap.size := by omega
  have hl_b2_11 : w.heap.size + 1 < W11.heap.size := by omega
  have hl_b3_11 : gL_2 < W11.heap.size := by omega
  have hl_b4_11 : w3.heap.size < W11.heap.size := by omega
  have hl_b5_11 : gL_4 < W11.heap.size := by omega
  have HW11 := Lib.hid hW11; clear hW11
  clear ow0_2_0_10' ow0_2_1_10' ot3_0_10' ot3_1_10' hm0_10 hm1_10 kb1_0_10' kb1_1_10' kb1_2_10' kb1_3_10' kb1_4_10' kb1_5_10' kb1_6_10' kb1_7_10' kb2_0_10' kb2_1_10' kb2_2_10' kb3_0_10' kb3_1_10' kb3_2_10' kb3_3_10' kb3_4_10' kb3_5_10' kb3_6_10' kb3_7_10' kb4_0_10' kb4_1_10' kb4_2_10' kb4_3_10' kb4_4_10' kb4_5_10' kb4_6_10' kb4_7_10' kb5_0_10' kb5_1_10' kb5_2_10' kb5_3_10' kb5_4_10' kb5_5_10' kb5_6_10' kb5_7_10'
  refine (heldVillage_2 Ar0_4 cr0_4 Rr0_4 dr0_4 _ _ ((doAct v0 x1 y1 z1).1) (1) _ (by omega) _ og0_4_0_11 og0_4_1_11 (by first | omega | (simp; omega))).mono ?_
  rintro e w11 ⟨rfl, hb11⟩
  try simp only [Vg.val]
  have ow0_2_0_11' := Row2.below ow0_2_0_11 hb11 (by omega)
  have ow0_2_1_11' := Row2.below ow0_2_1_11 hb11 (by omega)
  have ot3_0_11' := Row2.below ot3_0_11 hb11 (by omega)
  have ot3_1_11' := Row2.below ot3_1_11 hb11 (by omega)
  have og0_4_0_11' := Row2.below og0_4_0_11 hb11 (by omega)
  have og0_4_1_11' := Row2.below og0_4_1_11 hb11 (by omega)
  have kb1_0_11' := (hb11.cell (p := ⟨w.heap.size, 0, none⟩) (by show w.heap.size < _; omega)).trans kb1_0_11
  have kb1_1_11' := (hb11.cell (p := ⟨w.heap.size, 1, none⟩) (by show w.heap.size < _; omega)).trans kb1_1_11
  have kb1_2_11' := (hb11.cell (p := ⟨w.heap.size, 2, none⟩) (by show w.heap.size < _; omega)).trans kb1_2_11
  have kb1_3_11' := (hb11.cell (p := ⟨w.heap.size, 3, none⟩) (by show w.heap.size < _; omega)).trans kb1_3_11
  have kb1_4_11' := (hb11.cell (p := ⟨w.heap.size, 4, none⟩) (by show w.heap.size < _; omega)).trans kb1_4_11
  have kb1_5_11' := (hb11.cell (p := ⟨w.heap.size, 5, none⟩) (by show w.heap.size < _; omega)).trans kb1_5_11
  have kb1_6_11' := (hb11.cell (p := ⟨w.heap.size, 6, none⟩) (by show w.heap.size < _; omega)).trans kb1_6_11
  have kb1_7_11' := (hb11.cell (p := ⟨w.heap.size, 7, none⟩) (by show w.heap.size < _; omega)).trans kb1_7_11
  have kb2_0_11' := (hb11.cell (p := ⟨w.heap.size + 1, 0, none⟩) (by show w.heap.size + 1 < _; omega)).trans kb2_0_11
  have kb2_1_11' := (hb11.cell (p := ⟨w.heap.size + 1, 1, none⟩) (by show w.heap.size + 1 < _; omega)).trans kb2_1_11
  have kb2_2_11' := (hb11.cell (p := ⟨w.heap.size + 1, 2, none⟩) (by show w.heap.size + 1 < _; omega)).trans kb2_2_11
  have kb3_0_11' := (hb11.cell (p := ⟨gL_2, 0, none⟩) (by show gL_2 < _; omega)).trans kb3_0_11
  have kb3_1_11' := (hb11.cell (p := ⟨gL_2, 1, none⟩) (by show gL_2 < _; omega)).trans kb3_1_11
  have kb3_2_11' := (hb11.cell (p := ⟨gL_2, 2, none⟩) (by show gL_2 < _; omega)).trans kb3_2_11
  have kb3_3_11' := (hb11.cell (p := ⟨gL_2, 3, none⟩) (by show gL_2 < _; omega)).trans kb3_3_11
  have kb3_4_11' := (hb11.cell (p := ⟨gL_2, 4, none⟩) (by show gL_2 < _; omega)).trans kb3_4_11
  have kb3_5_11' := (hb11.cell (p := ⟨gL_2, 5, none⟩) (by show gL_2 < _; omega)).trans kb3_5_11
  have kb3_6_11' := (hb11.cell (p := ⟨gL_2, 6, none⟩) (by show gL_2 < _; omega)).trans kb3_6_11
  have kb3_7_11' := (hb11.cell (p := ⟨gL_2, 7, none⟩) (by show gL_2 < _; omega)).trans kb3_7_11
  have kb4_0_11' := (hb11.cell (p := ⟨w3.heap.size, 0, none⟩) (by show w3.heap.size < _; omega)).trans kb4_0_11
  have kb4_1_11' := (hb11.cell (p := ⟨w3.heap.size, 1, none⟩) (by show w3.heap.size < _; omega)).trans kb4_1_11
  have kb4_2_11' := (hb11.cell (p := ⟨w3.heap.size, 2, none⟩) (by show w3.heap.size < _; omega)).trans kb4_2_11
  have kb4_3_11' := (hb11.cell (p := ⟨w3.heap.size, 3, none⟩) (by show w3.heap.size < _; omega)).trans kb4_3_11
  have kb4_4_11' := (hb11.cell (p := ⟨w3.heap.size, 4, none⟩) (by show w3.heap.size < _; omega)).trans kb4_4_11
  have kb4_5_11' := (hb11.cell (p := ⟨w3.heap.size, 5, none⟩) (by show w3.heap.size < _; omega)).trans kb4_5_11
  have kb4_6_11' := (hb11.cell (p := ⟨w3.heap.size, 6, none⟩) (by show w3.heap.size < _; omega)).trans kb4_6_11
  have kb4_7_11' := (hb11.cell (p := ⟨w3.heap.size, 7, none⟩) (by show w3.heap.size < _; omega)).trans kb4_7_11
  have kb5_0_11' := (hb11.cell (p := ⟨gL_4, 0, none⟩) (by show gL_4 < _; omega)).trans kb5_0_11
  have kb5_1_11' := (hb11.cell (p := ⟨gL_4, 1, none⟩) (by show gL_4 < _; omega)).trans kb5_1_11
  have kb5_2_11' := (hb11.cell (p := ⟨gL_4, 2, none⟩) (by show gL_4 < _; omega)).trans kb5_2_11
  have kb5_3_11' := (hb11.cell (p := ⟨gL_4, 3, none⟩) (by show gL_4 < _; omega)).trans kb5_3_11
  have kb5_4_11' := (hb11.cell (p := ⟨gL_4, 4, none⟩) (by show gL_4 < _; omega)).trans kb5_4_11
  have kb5_5_11' := (hb11.cell (p := ⟨gL_4, 5, none⟩) (by show gL_4 < _; omega)).trans kb5_5_11
  have kb5_6_11' := (hb11.cell (p := ⟨gL_4, 6, none⟩) (by show gL_4 < _; omega)).trans kb5_6_11
  have kb5_7_11' := (hb11.cell (p := ⟨gL_4, 7, none⟩) (by show gL_4 < _; omega)).trans kb5_7_11
  have hB11' := hB11.trans (hb11.mono hB11.size)
  have hz11' : W11.heap.size ≤ w11.heap.size := hb11.size
  have hl_b1_11' : w.heap.size < w11.heap.size := by omega
  have hl_b2_11' : w.heap.size + 1 < w11.heap.size := by omega
  have hl_b3_11' : gL_2 < w11.heap.size := by omega
  have hl_b4_11' : w3.heap.size < w11.heap.size := by omega
  have hl_b5_11' : gL_4 < w11.heap.size := by omega
  clear ow0_2_0_11 ow0_2_1_11 ot3_0_11 ot3_1_11 og0_4_0_11 og0_4_1_11 kb1_0_11 kb1_1_11 kb1_2_11 kb1_3_11 kb1_4_11 kb1_5_11 kb1_6_11 kb1_7_11 kb2_0_11 kb2_1_11 kb2_2_11 kb3_0_11 kb3_1_11 kb3_2_11 kb3_3_11 kb3_4_11 kb3_5_11 kb3_6_11 kb3_7_11 kb4_0_11 kb4_1_11 kb4_2_11 kb4_3_11 kb4_4_11 kb4_5_11 kb4_6_11 kb4_7_11 kb5_0_11 kb5_1_11 kb5_2_11 kb5_3_11 kb5_4_11 kb5_5_11 kb5_6_11 kb5_7_11
  go_upto_region 24 with fail
  first | refine name_world ?_ | refine name_wp ?_
  intro W12 hW12
  have hp12 : Below w11.heap.size w11 W12 := by rw [hW12]; repeat' (first | (with_reducible exact Below.refl _ _) | (with_reducible refine Below.alloc ?_ ?_ _) | (with_reducible refine Below.setCell ?_ ?_ _) | (with_reducible refine Below.drew ?_) | (simp; done) | (simp; omega))
  have ow0_2_0_12 := Row2.below ow0_2_0_11' hp12 (by omega)
  have ow0_2_1_12 := Row2.below ow0_2_1_11' hp12 (by omega)
  have ot3_0_12 := Row2.below ot3_0_11' hp12 (by omega)
  have ot3_1_12 := Row2.below ot3_1_11' hp12 (by omega)
  have og0_4_0_12 := Row2.below og0_4_0_11' hp12 (by omega)
  have og0_4_1_12 := Row2.below og0_4_1_11' hp12 (by omega)
  have kb1_0_12 := (hp12.cell (p := ⟨w.heap.size, 0, none⟩) (by show w.heap.size < _; omega)).trans kb1_0_11'
  have kb1_1_12 := (hp12.cell (p := ⟨w.heap.size, 1, none⟩) (by show w.heap.size < _; omega)).trans kb1_1_11'
  have kb1_2_12 := (hp12.cell (p := ⟨w.heap.size, 2, none⟩) (by show w.heap.size < _; omega)).trans kb1_2_11'
  have kb1_3_12 := (hp12.cell (p := ⟨w.heap.size, 3, none⟩) (by show w.heap.size < _; omega)).trans kb1_3_11'
  have kb1_4_12 := (hp12.cell (p := ⟨w.heap.size, 4, none⟩) (by show w.heap.size < _; omega)).trans kb1_4_11'
  have kb1_5_12 := (hp12.cell (p := ⟨w.heap.size, 5, none⟩) (by show w.heap.size < _; omega)).trans kb1_5_11'
  have kb1_6_12 := (hp12.cell (p := ⟨w.heap.size, 6, none⟩) (by show w.heap.size < _; omega)).trans kb1_6_11'
  have kb1_7_12 := (hp12.cell (p := ⟨w.heap.size, 7, none⟩) (by show w.heap.size < _; omega)).trans kb1_7_11'
  have kb2_0_12 := (hp12.cell (p := ⟨w.heap.size + 1, 0, none⟩) (by show w.heap.size + 1 < _; omega)).trans kb2_0_11'
  have kb2_1_12 := (hp12.cell (p := ⟨w.heap.size + 1, 1, none⟩) (by show w.heap.size + 1 < _; omega)).trans kb2_1_11'
  have kb2_2_12 := (hp12.cell (p := ⟨w.heap.size + 1, 2, none⟩) (by show w.heap.size + 1 < _; omega)).trans kb2_2_11'
  have kb3_0_12 := (hp12.cell (p := ⟨gL_2, 0, none⟩) (by show gL_2 < _; omega)).trans kb3_0_11'
  have kb3_1_12 := (hp12.cell (p := ⟨gL_2, 1, none⟩) (by show gL_2 < _; omega)).trans kb3_1_11'
  have kb3_2_12 := (hp12.cell (p := ⟨gL_2, 2, none⟩) (by show gL_2 < _; omega)).trans kb3_2_11'
  have kb3_3_12 := (hp12.cell (p := ⟨gL_2, 3, none⟩) (by show gL_2 < _; omega)).trans kb3_3_11'
  have kb3_4_12 := (hp12.cell (p := ⟨gL_2, 4, none⟩) (by show gL_2 < _; omega)).trans kb3_4_11'
  have kb3_5_12 := (hp12.cell (p := ⟨gL_2, 5, none⟩) (by show gL_2 < _; omega)).trans kb3_5_11'
  have kb3_6_12 := (hp12.cell (p := ⟨gL_2, 6, none⟩) (by show gL_2 < _; omega)).trans kb3_6_11'
  have kb3_7_12 := (hp12.cell (p := ⟨gL_2, 7, none⟩) (by show gL_2 < _; omega)).trans kb3_7_11'
  have kb4_0_12 := (hp12.cell (p := ⟨w3.heap.size, 0, none⟩) (by show w3.heap.size < _; omega)).trans kb4_0_11'
  have kb4_1_12 := (hp12.cell (p := ⟨w3.heap.size, 1, none⟩) (by show w3.heap.size < _; omega)).trans kb4_1_11'
  have kb4_2_12 := (hp12.cell (p := ⟨w3.heap.size, 2, none⟩) (by show w3.heap.size < _; omega)).trans kb4_2_11'
  have kb4_3_12 := (hp12.cell (p := ⟨w3.heap.size, 3, none⟩) (by show w3.heap.size < _; omega)).trans kb4_3_11'
  have kb4_4_12 := (hp12.cell (p := ⟨w3.heap.size, 4, none⟩) (by show w3.heap.size < _; omega)).trans kb4_4_11'
  have kb4_5_12 := (hp12.cell (p := ⟨w3.heap.size, 5, none⟩) (by show w3.heap.size < _; omega)).trans kb4_5_11'
  have kb4_6_12 := (hp12.cell (p := ⟨w3.heap.size, 6, none⟩) (by show w3.heap.size < _; omega)).trans kb4_6_11'
  have kb4_7_12 := (hp12.cell (p := ⟨w3.heap.size, 7, none⟩) (by show w3.heap.size < _; omega)).trans kb4_7_11'
  have kb5_0_12 := (hp12.cell (p := ⟨gL_4, 0, none⟩) (by show gL_4 < _; omega)).trans kb5_0_11'
  have kb5_1_12 := (hp12.cell (p := ⟨gL_4, 1, none⟩) (by show gL_4 < _; omega)).trans kb5_1_11'
  have kb5_2_12 := (hp12.cell (p := ⟨gL_4, 2, none⟩) (by show gL_4 < _; omega)).trans kb5_2_11'
  have kb5_3_12 := (hp12.cell (p := ⟨gL_4, 3, none⟩) (by show gL_4 < _; omega)).trans kb5_3_11'
  have kb5_4_12 := (hp12.cell (p := ⟨gL_4, 4, none⟩) (by show gL_4 < _; omega)).trans kb5_4_11'
  have kb5_5_12 := (hp12.cell (p := ⟨gL_4, 5, none⟩) (by show gL_4 < _; omega)).trans kb5_5_11'
  have kb5_6_12 := (hp12.cell (p := ⟨gL_4, 6, none⟩) (by show gL_4 < _; omega)).trans kb5_6_11'
  have kb5_7_12 := (hp12.cell (p := ⟨gL_4, 7, none⟩) (by show gL_4 < _; omega)).trans kb5_7_11'
  have hB12 := hB11'.trans (hp12.mono hB11'.size)
  have hz12 : w11.heap.size ≤ W12.heap.size := hp12.size
  have hl_b1_12 : w.heap.size < W12.heap.size := by omega
  have hl_b2_12 : w.heap.size + 1 < W12.heap.size := by omega
  have hl_b3_12 : gL_2 < W12.heap.size := by omega
  have hl_b4_12 : w3.heap.size < W12.heap.size := by omega
  have hl_b5_12 : gL_4 < W12.heap.size := by omega
  have HW12 := Lib.hid hW12; clear hW12
  have hk12 : ∀ X : World, Below W12.heap.size W12 X → X.cell? ⟨w.heap.size, 0, none⟩ = some (.int .i64 v0.book.room) ∧ X.cell? ⟨w.heap.size, 1, none⟩ = some (.int .i64 v0.book.start) ∧ X.cell? ⟨w.heap.size, 2, none⟩ = some (.slice A0 v0.book.evs.length c0) ∧ X.cell? ⟨w.heap.size, 3, none⟩ = some (.int .i64 v0.book.level) ∧ X.cell? ⟨w.heap.size, 4, none⟩ = some (.int .i64 v0.book.rained) ∧ X.cell? ⟨w.heap.size, 5, none⟩ = some (.int .i64 v0.book.drunk) ∧ X.cell? ⟨w.heap.size, 6, none⟩ = some (.int .i64 v0.book.lost) ∧ X.cell? ⟨w.heap.size, 7, none⟩ = some (.slice R0 v0.rights.length d0) ∧ X.cell? ⟨w.heap.size + 1, 0, none⟩ = some (.int .i64 x1) ∧ X.cell? ⟨w.heap.size + 1, 1, none⟩ = some (.int .i64 y1) ∧ X.cell? ⟨w.heap.size + 1, 2, none⟩ = some (.int .i64 z1) := fun X hX => ⟨(Below.cell hX (p := ⟨w.heap.size, 0, none⟩) (by show w.heap.size < W12.heap.size; omega)).trans kb1_0_12, (Below.cell hX (p := ⟨w.heap.size, 1, none⟩) (by show w.heap.size < W12.heap.size; omega)).trans kb1_1_12, (Below.cell hX (p := ⟨w.heap.size, 2, none⟩) (by show w.heap.size < W12.heap.size; omega)).trans kb1_2_12, (Below.cell hX (p := ⟨w.heap.size, 3, none⟩) (by show w.heap.size < W12.heap.size; omega)).trans kb1_3_12, (Below.cell hX (p := ⟨w.heap.size, 4, none⟩) (by show w.heap.size < W12.heap.size; omega)).trans kb1_4_12, (Below.cell hX (p := ⟨w.heap.size, 5, none⟩) (by show w.heap.size < W12.heap.size; omega)).trans kb1_5_12, (Below.cell hX (p := ⟨w.heap.size, 6, none⟩) (by show w.heap.size < W12.heap.size; omega)).trans kb1_6_12, (Below.cell hX (p := ⟨w.heap.size, 7, none⟩) (by show w.heap.size < W12.heap.size; omega)).trans kb1_7_12, (Below.cell hX (p := ⟨w.heap.size + 1, 0, none⟩) (by show w.heap.size + 1 < W12.heap.size; omega)).trans kb2_0_12, (Below.cell hX (p := ⟨w.heap.size + 1, 1, none⟩) (by show w.heap.size + 1 < W12.heap.size; omega)).trans kb2_1_12, (Below.cell hX (p := ⟨w.heap.size + 1, 2, none⟩) (by show w.heap.size + 1 < W12.heap.size; omega)).trans kb2_2_12⟩
  have HK12 := Lib.hid hk12; clear hk12
  clear ow0_2_0_11' ow0_2_1_11' ot3_0_11' ot3_1_11' og0_4_0_11' og0_4_1_11' kb1_0_11' kb1_1_11' kb1_2_11' kb1_3_11' kb1_4_11' kb1_5_11' kb1_6_11' kb1_7_11' kb2_0_11' kb2_1_11' kb2_2_11' kb3_0_11' kb3_1_11' kb3_2_11' kb3_3_11' kb3_4_11' kb3_5_11' kb3_6_11' kb3_7_11' kb4_0_11' kb4_1_11' kb4_2_11' kb4_3_11' kb4_4_11' kb4_5_11' kb4_6_11' kb4_7_11' kb5_0_11' kb5_1_11' kb5_2_11' kb5_3_11' kb5_4_11' kb5_5_11' kb5_6_11' kb5_7_11'
  (try simp only [Int.natCast_add])
  refine name_act ?_
  intro a0 ha0
  replace ha0 := Lib.hid ha0
  refine wp_region_inv (by kernel_rfl) (by kernel_rfl) (fun d a w' => ∃ (u80 u81 u82 u83 u84 u79 u85 u86 u14 u15 : Value) (Aq1 : Option Addr) (cq1 : Nat) (Rq1 : Option Addr) (dq1 : Nat) (Ar0 : Option Addr) (cr0 : Nat) (Rr0 : Option Addr) (dr0 : Nat) (lo0 : Nat) (hi0 : Nat) (lo1 : Nat) (hi1 : Nat) (gL : Nat), a = ((((((((((a0.put (some 80) u80).put (some 81) u81).put (some 82) u82).put (some 83) u83).put (some 84) u84).put (some 79) u79).put (some 85) u85).put (some 86) u86).put (some 14) u14).put (some 15) u15) ∧ Hid (Below W12.heap.size W12 w') ∧ Hid (d 0 = true → u80 = .agg #[.int .i64 v0.book.room, .int .i64 v0.book.start, .slice A0 v0.book.evs.length c0, .int .i64 v0.book.level, .int .i64 v0.book.rained, .int .i64 v0.book.drunk, .int .i64 v0.book.lost, .slice R0 v0.rights.length d0]) ∧ Hid (d 1 = true → d 4 = false → Rd w' w'.heap.size 3 Aq1 (v0.book.evs.length) cq1 (t3s v0.book.evs)) ∧ Hid (d 1 = true → d 4 = false → Rd w' w'.heap.size 3 Rq1 (v0.rights.length) dq1 (t3s v0.rights)) ∧ Hid (d 1 = true → u81 = .agg #[.int .i64 v0.book.room, .int .i64 v0.book.start, .slice Aq1 v0.book.evs.length cq1, .int .i64 v0.book.level, .int .i64 v0.book.rained, .int .i64 v0.book.drunk, .int .i64 v0.book.lost, .slice Rq1 v0.rights.length dq1]) ∧ Hid (d 2 = true → u82 = .agg #[.int .i64 x1, .int .i64 y1, .int .i64 z1]) ∧ Hid (d 3 = true → u83 = .agg #[.int .i64 x1, .int .i64 y1, .int .i64 z1]) ∧ Hid (d 4 = true → u84 = .tuple #[.agg #[.int .i64 (doAct v0 x1 y1 z1).1.book.room, .int .i64 (doAct v0 x1 y1 z1).1.book.start, .slice Ar0 (doAct v0 x1 y1 z1).1.book.evs.length cr0, .int .i64 (doAct v0 x1 y1 z1).1.book.level, .int .i64 (doAct v0 x1 y1 z1).1.book.rained, .int .i64 (doAct v0 x1 y1 z1).1.book.drunk, .int .i64 (doAct v0 x1 y1 z1).1.book.lost, .slice Rr0 (doAct v0 x1 y1 z1).1.rights.length dr0], .int .i64 r1]) ∧ Hid (d 5 = true → u79 = .tuple #[.agg #[.int .i64 (doAct v0 x1 y1 z1).1.book.room, .int .i64 (doAct v0 x1 y1 z1).1.book.start, .slice Ar0 (doAct v0 x1 y1 z1).1.book.evs.length cr0, .int .i64 (doAct v0 x1 y1 z1).1.book.level, .int .i64 (doAct v0 x1 y1 z1).1.book.rained, .int .i64 (doAct v0 x1 y1 z1).1.book.drunk, .int .i64 (doAct v0 x1 y1 z1).1.book.lost, .slice Rr0 (doAct v0 x1 y1 z1).1.rights.length dr0], .int .i64 r1]) ∧ Hid (d 6 = true → u85 = .agg #[.int .i64 (doAct v0 x1 y1 z1).1.book.room, .int .i64 (doAct v0 x1 y1 z1).1.book.start, .slice Ar0 (doAct v0 x1 y1 z1).1.book.evs.length cr0, .int .i64 (doAct v0 x1 y1 z1).1.book.level, .int .i64 (doAct v0 x1 y1 z1).1.book.rained, .int .i64 (doAct v0 x1 y1 z1).1.book.drunk, .int .i64 (doAct v0 x1 y1 z1).1.book.lost, .slice Rr0 (doAct v0 x1 y1 z1).1.rights.length dr0]) ∧ Hid (d 7 = true → u86 = .int .i64 r1) ∧ Hid (d 8 = true → u14 = .pointer (some ⟨gL, 0, none⟩)) ∧ Hid (d 10 = true → u15 = .int .i64 r1) ∧ Hid (d 4 = true → Row2 w' lo0 hi0 87 3 Ar0 ((doAct v0 x1 y1 z1).1.book.evs.length) cr0 (t3s (doAct v0 x1 y1 z1).1.book.evs) ∧ W12.heap.size ≤ lo0 ∧ hi0 ≤ w'.heap.size) ∧ Hid (d 4 = true → d 8 = true → gL < lo0 ∨ hi0 ≤ gL) ∧ Hid (d 4 = true → Row2 w' lo0 hi0 92 3 Rr0 ((doAct v0 x1 y1 z1).1.rights.length) dr0 (t3s (doAct v0 x1 y1 z1).1.rights) ∧ W12.heap.size ≤ lo0 ∧ hi0 ≤ w'.heap.size) ∧ Hid (d 4 = true → d 8 = true → gL < lo0 ∨ hi0 ≤ gL) ∧ Hid (d 8 = true → W12.heap.size ≤ gL ∧ gL < w'.heap.size) ∧ Hid (d 8 = true → d 9 = false → Blk w' gL 36 #[.int .i64 0, .int .i64 0, .slice none 0 0, .int .i64 0, .int .i64 0, .int .i64 0, .int .i64 0, .slice none 0 0]) ∧ Hid (d 9 = true → Blk w' gL 36 #[.int .i64 (doAct v0 x1 y1 z1).1.book.room, .int .i64 (doAct v0 x1 y1 z1).1.book.start, .slice Ar0 (doAct v0 x1 y1 z1).1.book.evs.length cr0, .int .i64 (doAct v0 x1 y1 z1).1.book.level, .int .i64 (doAct v0 x1 y1 z1).1.book.rained, .int .i64 (doAct v0 x1 y1 z1).1.book.drunk, .int .i64 (doAct v0 x1 y1 z1).1.book.lost, .slice Rr0 (doAct v0 x1 y1 z1).1.rights.length dr0])) ?_ ?_ ?_
  · refine ⟨undef, undef, undef, undef, undef, undef, undef, undef, undef, undef, none, 0, none, 0, none, 0, none, 0, 0, 0, 0, 0, 0, ?_, (Below.refl _ _).drew, ?_⟩
    · rw [ha0.out]; simp only [Act.put, List.setIfInBounds_toArray, List.set_cons_zero, List.set_cons_succ]
    · repeat' apply And.intro
      all_goals (show _ → _; intro h; cases h)
  · refine ⟨?_, ?_, ?_, ?_, ?_, ?_, ?_, ?_, ?_, ?_, ?_, trivial⟩
    · rintro d a w' ⟨u80, u81, u82, u83, u84, u79, u85, u86, u14, u15, Aq1, cq1, Rq1, dq1, Ar0, cr0, Rr0, dr0, lo0, hi0, lo1, hi1, gL, rfl, hC, f0, g1_0, g1_1, f1, f2, f3, f4, f5, f6, f7, f8, f10, m0, s0, m1, s1, ga, ka, ks⟩ hcl hd hdep K hK
      replace hcl := Lib.hid hcl; replace hdep := Lib.hid hdep; replace hK := Lib.hid hK; have hsz := hC.out.size
      have hS := HK12.out w' hC.out
      rw [ha0.out]
      simp only [Act.put, List.setIfInBounds_toArray, List.set_cons_zero, List.set_cons_succ]
      go_simp
      refine hK.out _ _ ⟨_, u81, u82, u83, u84, u79, u85, u86, u14, u15, Aq1, cq1, Rq1, dq1, Ar0, cr0, Rr0, dr0, lo0, hi0, lo1, hi1, gL, (by rw [ha0.out]; simp only [Act.put, List.setIfInBounds_toArray, List.set_cons_zero, List.set_cons_succ]), hC, (fun _ => rfl), g1_0, g1_1, f1, f2, f3, f4, f5, f6, f7, f8, f10, m0, s0, m1, s1, ga, ka, ks⟩
    · rintro d a w' ⟨u80, u81, u82, u83, u84, u79, u85, u86, u14, u15, Aq1, cq1, Rq1, dq1, Ar0, cr0, Rr0, dr0, lo0, hi0, lo1, hi1, gL, rfl, hC, f0, g1_0, g1_1, f1, f2, f3, f4, f5, f6, f7, f8, f10, m0, s0, m1, s1, ga, ka, ks⟩ hcl hd hdep K hK
      replace hcl := Lib.hid hcl; replace hdep := Lib.hid hdep; replace hK := Lib.hid hK; have hsz := hC.out.size
      obtain rfl := f0.out (dep_of hdep.out 0 (by kernel_rfl))
      rw [ha0.out]
      simp only [Act.put, List.setIfInBounds_toArray, List.set_cons_zero, List.set_cons_succ]
      go_simp; refine (toVillage_any A0 c0 R0 d0 v0 _ (Rd.later h0_0 (hB12.trans (hC.out.mono hB12.size))) (Rd.later h0_1 (hB12.trans (hC.out.mono hB12.size))) hs0).mono ?_; rintro e w3 ⟨Aq1', cq1', Rq1', dq1', rfl, hoq0, hoq1, hb⟩
      try simp only [Vg.val]
      refine hK.out _ _ ⟨_, _, u82, u83, u84, u79, u85, u86, u14, u15, Aq1', cq1', Rq1', dq1', Ar0, cr0, Rr0, dr0, lo0, hi0, lo1, hi1, gL, (by rw [ha0.out]; simp only [Act.put, List.setIfInBounds_toArray, List.set_cons_zero, List.set_cons_succ]), (hC.out.trans (hb.mono hsz)), f0, (fun _ _ => Rd.of_own hoq0), (fun _ _ => Rd.of_own hoq1), (fun _ => rfl), f2, f3, f4, f5, f6, f7, f8, f10, (fun h => ⟨Row2.below (m0.out h).1 hb (m0.out h).2.2, (m0.out h).2.1, Nat.le_trans (m0.out h).2.2 hb.size⟩), s0, (fun h => ⟨Row2.below (m1.out h).1 hb (m1.out h).2.2, (m1.out h).2.1, Nat.le_trans (m1.out h).2.2 hb.size⟩), s1, (fun h => ⟨(ga.out h).1, Nat.lt_of_lt_of_le (ga.out h).2 hb.size⟩), (fun h1 h2 => (ka.out h1 h2).below hb (ga.out h1).2), (fun h => (ks.out h).below hb (ks.out h).lt)⟩
    · rintro d a w' ⟨u80, u81, u82, u83, u84, u79, u85, u86, u14, u15, Aq1, cq1, Rq1, dq1, Ar0, cr0, Rr0, dr0, lo0, hi0, lo1, hi1, gL, rfl, hC, f0, g1_0, g1_1, f1, f2, f3, f4, f5, f6, f7, f8, f10, m0, s0, m1, s1, ga, ka, ks⟩ hcl hd hdep K hK
      replace hcl := Lib.hid hcl; replace hdep := Lib.hid hdep; replace hK := Lib.hid hK; have hsz := hC.out.size
      have hS := HK12.out w' hC.out
      rw [ha0.out]
      simp only [Act.put, List.setIfInBounds_toArray, List.set_cons_zero, List.set_cons_succ]
      go_simp
      refine hK.out _ _ ⟨u80, u81, _, u83, u84, u79, u85, u86, u14, u15, Aq1, cq1, Rq1, dq1, Ar0, cr0, Rr0, dr0, lo0, hi0, lo1, hi1, gL, (by rw [ha0.out]; simp only [Act.put, List.setIfInBounds_toArray, List.set_cons_zero, List.set_cons_succ]), hC, f0, g1_0, g1_1, f1, (fun _ => rfl), f3, f4, f5, f6, f7, f8, f10, m0, s0, m1, s1, ga, ka, ks⟩
    · rintro d a w' ⟨u80, u81, u82, u83, u84, u79, u85, u86, u14, u15, Aq1, cq1, Rq1, dq1, Ar0, cr0, Rr0, dr0, lo0, hi0, lo1, hi1, gL, rfl, hC, f0, g1_0, g1_1, f1, f2, f3, f4, f5, f6, f7, f8, f10, m0, s0, m1, s1, ga, ka, ks⟩ hcl hd hdep K hK
      replace hcl := Lib.hid hcl; replace hdep := Lib.hid hdep; replace hK := Lib.hid hK; have hsz := hC.out.size
      obtain rfl := f2.out (dep_of hdep.out 2 (by kernel_rfl))
      rw [ha0.out]
      simp only [Act.put, List.setIfInBounds_toArray, List.set_cons_zero, List.set_cons_succ]
      go_simp; refine (toAct_any x1 y1 z1 _).mono ?_; rintro e w3 ⟨rfl, hb⟩
      try simp only [Vg.val]
      refine hK.out _ _ ⟨u80, u81, _, _, u84, u79, u85, u86, u14, u15, Aq1, cq1, Rq1, dq1, Ar0, cr0, Rr0, dr0, lo0, hi0, lo1, hi1, gL, (by rw [ha0.out]; simp only [Act.put, List.setIfInBounds_toArray, List.set_cons_zero, List.set_cons_succ]), (hC.out.trans (hb.mono hsz)), f0, (fun h1 h2 => Rd.below' (g1_0.out h1 h2) hb), (fun h1 h2 => Rd.below' (g1_1.out h1 h2) hb), f1, f2, (fun _ => rfl), f4, f5, f6, f7, f8, f10, (fun h => ⟨Row2.below (m0.out h).1 hb (m0.out h).2.2, (m0.out h).2.1, Nat.le_trans (m0.out h).2.2 hb.size⟩), s0, (fun h => ⟨Row2.below (m1.out h).1 hb (m1.out h).2.2, (m1.out h).2.1, Nat.le_trans (m1.out h).2.2 hb.size⟩), s1, (fun h => ⟨(ga.out h).1, Nat.lt_of_lt_of_le (ga.out h).2 hb.size⟩), (fun h1 h2 => (ka.out h1 h2).below hb (ga.out h1).2), (fun h => (ks.out h).below hb (ks.out h).lt)⟩
    · rintro d a w' ⟨u80, u81, u82, u83, u84, u79, u85, u86, u14, u15, Aq1, cq1, Rq1, dq1, Ar0, cr0, Rr0, dr0, lo0, hi0, lo1, hi1, gL, rfl, hC, f0, g1_0, g1_1, f1, f2, f3, f4, f5, f6, f7, f8, f10, m0, s0, m1, s1, ga, ka, ks⟩ hcl hd hdep K hK
      replace hcl := Lib.hid hcl; replace hdep := Lib.hid hdep; replace hK := Lib.hid hK; have hsz := hC.out.size
      have cl10 : d 10 = true → d 4 = true := fun h => (dep_of (hcl.out 5 _ rfl (dep_of (hcl.out 7 _ rfl (dep_of (hcl.out 10 _ rfl h) 7 (by kernel_rfl))) 5 (by kernel_rfl))) 4 (by kernel_rfl))
      have cl9 : d 9 = true → d 4 = true := fun h => (dep_of (hcl.out 5 _ rfl (dep_of (hcl.out 6 _ rfl (dep_of (hcl.out 9 _ rfl h) 6 (by kernel_rfl))) 5 (by kernel_rfl))) 4 (by kernel_rfl))
      have cl7 : d 7 = true → d 4 = true := fun h => (dep_of (hcl.out 5 _ rfl (dep_of (hcl.out 7 _ rfl h) 5 (by kernel_rfl))) 4 (by kernel_rfl))
      have cl6 : d 6 = true → d 4 = true := fun h => (dep_of (hcl.out 5 _ rfl (dep_of (hcl.out 6 _ rfl h) 5 (by kernel_rfl))) 4 (by kernel_rfl))
      have cl5 : d 5 = true → d 4 = true := fun h => (dep_of (hcl.out 5 _ rfl h) 4 (by kernel_rfl))
      obtain rfl := f1.out (dep_of hdep.out 1 (by kernel_rfl))
      obtain rfl := f3.out (dep_of hdep.out 3 (by kernel_rfl))
      rw [ha0.out]
      simp only [Act.put, List.setIfInBounds_toArray, List.set_cons_zero, List.set_cons_succ]
      go_simp; refine (DoAct_any Aq1 cq1 Rq1 dq1 v0 x1 y1 z1 _ (g1_0.out (dep_of hdep.out 1 (by kernel_rfl)) hd) (g1_1.out (dep_of hdep.out 1 (by kernel_rfl)) hd) (by omega)).mono ?_; rintro e w3 ⟨Ar0', cr0', Rr0', dr0', rfl, hor0, hor1, hb⟩
      try simp only [Vg.val]
      rw [← HR1.out]
      refine hK.out _ _ ⟨u80, _, u82, _, _, u79, u85, u86, u14, u15, Aq1, cq1, Rq1, dq1, Ar0', cr0', Rr0', dr0', w'.heap.size, w3.heap.size, w'.heap.size, w3.heap.size, gL, (by rw [ha0.out]; simp only [Act.put, List.setIfInBounds_toArray, List.set_cons_zero, List.set_cons_succ]), (hC.out.trans (hb.mono hsz)), f0, (fun _ h => absurd h (by simp [upd])), (fun _ h => absurd h (by simp [upd])), f1, f2, f3, (fun _ => rfl), (fun h => absurd (cl5 h) (by rw [hd]; simp)), (fun h => absurd (cl6 h) (by rw [hd]; simp)), (fun h => absurd (cl7 h) (by rw [hd]; simp)), f8, (fun h => absurd (cl10 h) (by rw [hd]; simp)), (fun _ => ⟨Row2.born hor0, hsz, Nat.le_refl _⟩), (fun _ h => .inl (ga.out h).2), (fun _ => ⟨Row2.born hor1, hsz, Nat.le_refl _⟩), (fun _ h => .inl (ga.out h).2), (fun h => ⟨(ga.out h).1, Nat.lt_of_lt_of_le (ga.out h).2 hb.size⟩), (fun h1 h2 => (ka.out h1 h2).below hb (ga.out h1).2), (fun h => absurd (cl9 h) (by rw [hd]; simp))⟩
    · rintro d a w' ⟨u80, u81, u82, u83, u84, u79, u85, u86, u14, u15, Aq1, cq1, Rq1, dq1, Ar0, cr0, Rr0, dr0, lo0, hi0, lo1, hi1, gL, rfl, hC, f0, g1_0, g1_1, f1, f2, f3, f4, f5, f6, f7, f8, f10, m0, s0, m1, s1, ga, ka, ks⟩ hcl hd hdep K hK
      replace hcl := Lib.hid hcl; replace hdep := Lib.hid hdep; replace hK := Lib.hid hK; have hsz := hC.out.size
      obtain rfl := f4.out (dep_of hdep.out 4 (by kernel_rfl))
      rw [ha0.out]
      simp only [Act.put, List.setIfInBounds_toArray, List.set_cons_zero, List.set_cons_succ]
      go_simp
      refine hK.out _ _ ⟨u80, u81, u82, u83, _, _, u85, u86, u14, u15, Aq1, cq1, Rq1, dq1, Ar0, cr0, Rr0, dr0, lo0, hi0, lo1, hi1, gL, (by rw [ha0.out]; simp only [Act.put, List.setIfInBounds_toArray, List.set_cons_zero, List.set_cons_succ]), hC, f0, g1_0, g1_1, f1, f2, f3, f4, (fun _ => rfl), f6, f7, f8, f10, m0, s0, m1, s1, ga, ka, ks⟩
    · rintro d a w' ⟨u80, u81, u82, u83, u84, u79, u85, u86, u14, u15, Aq1, cq1, Rq1, dq1, Ar0, cr0, Rr0, dr0, lo0, hi0, lo1, hi1, gL, rfl, hC, f0, g1_0, g1_1, f1, f2, f3, f4, f5, f6, f7, f8, f10, m0, s0, m1, s1, ga, ka, ks⟩ hcl hd hdep K hK
      replace hcl := Lib.hid hcl; replace hdep := Lib.hid hdep; replace hK := Lib.hid hK; have hsz := hC.out.size
      obtain rfl := f5.out (dep_of hdep.out 5 (by kernel_rfl))
      rw [ha0.out]
      simp only [Act.put, List.setIfInBounds_toArray, List.set_cons_zero, List.set_cons_succ]
      go_simp
      refine hK.out _ _ ⟨u80, u81, u82, u83, u84, _, _, u86, u14, u15, Aq1, cq1, Rq1, dq1, Ar0, cr0, Rr0, dr0, lo0, hi0, lo1, hi1, gL, (by rw [ha0.out]; simp only [Act.put, List.setIfInBounds_toArray, List.set_cons_zero, List.set_cons_succ]), hC, f0, g1_0, g1_1, f1, f2, f3, f4, f5, (fun _ => rfl), f7, f8, f10, m0, s0, m1, s1, ga, ka, ks⟩
    · rintro d a w' ⟨u80, u81, u82, u83, u84, u79, u85, u86, u14, u15, Aq1, cq1, Rq1, dq1, Ar0, cr0, Rr0, dr0, lo0, hi0, lo1, hi1, gL, rfl, hC, f0, g1_0, g1_1, f1, f2, f3, f4, f5, f6, f7, f8, f10, m0, s0, m1, s1, ga, ka, ks⟩ hcl hd hdep K hK
      replace hcl := Lib.hid hcl; replace hdep := Lib.hid hdep; replace hK := Lib.hid hK; have hsz := hC.out.size
      obtain rfl := f5.out (dep_of hdep.out 5 (by kernel_rfl))
      rw [ha0.out]
      simp only [Act.put, List.setIfInBounds_toArray, List.set_cons_zero, List.set_cons_succ]
      go_simp
      refine hK.out _ _ ⟨u80, u81, u82, u83, u84, _, u85, _, u14, u15, Aq1, cq1, Rq1, dq1, Ar0, cr0, Rr0, dr0, lo0, hi0, lo1, hi1, gL, (by rw [ha0.out]; simp only [Act.put, List.setIfInBounds_toArray, List.set_cons_zero, List.set_cons_succ]), hC, f0, g1_0, g1_1, f1, f2, f3, f4, f5, f6, (fun _ => rfl), f8, f10, m0, s0, m1, s1, ga, ka, ks⟩
    · rintro d a w' ⟨u80, u81, u82, u83, u84, u79, u85, u86, u14, u15, Aq1, cq1, Rq1, dq1, Ar0, cr0, Rr0, dr0, lo0, hi0, lo1, hi1, gL, rfl, hC, f0, g1_0, g1_1, f1, f2, f3, f4, f5, f6, f7, f8, f10, m0, s0, m1, s1, ga, ka, ks⟩ hcl hd hdep K hK
      replace hcl := Lib.hid hcl; replace hdep := Lib.hid hdep; replace hK := Lib.hid hK; have hsz := hC.out.size
      rw [ha0.out]
      simp only [Act.put, List.setIfInBounds_toArray, List.set_cons_zero, List.set_cons_succ]
      go_simp
      have hb := Below.alloc (Below.refl w'.heap.size w') (Nat.le_refl _) (.cells #[.int .i64 0, .int .i64 0, .slice none 0 0, .int .i64 0, .int .i64 0, .int .i64 0, .int .i64 0, .slice none 0 0] 36)
      refine hK.out _ _ ⟨u80, u81, u82, u83, u84, u79, u85, u86, _, u15, Aq1, cq1, Rq1, dq1, Ar0, cr0, Rr0, dr0, lo0, hi0, lo1, hi1, w'.heap.size, (by rw [ha0.out]; simp only [Act.put, List.setIfInBounds_toArray, List.set_cons_zero, List.set_cons_succ]), (hC.out.trans (hb.mono hsz)), f0, (fun h1 h2 => Rd.below' (g1_0.out h1 h2) hb), (fun h1 h2 => Rd.below' (g1_1.out h1 h2) hb), f1, f2, f3, f4, f5, f6, f7, (fun _ => rfl), f10, (fun h => ⟨Row2.below (m0.out h).1 hb (m0.out h).2.2, (m0.out h).2.1, Nat.le_trans (m0.out h).2.2 hb.size⟩), (fun h _ => .inr (m0.out h).2.2), (fun h => ⟨Row2.below (m1.out h).1 hb (m1.out h).2.2, (m1.out h).2.1, Nat.le_trans (m1.out h).2.2 hb.size⟩), (fun h _ => .inr (m1.out h).2.2), (fun _ => ⟨hsz, by simp⟩), (fun _ _ => Blk.new _ _ _), (fun h => absurd (dep_of (hcl.out 9 _ rfl h) 8 (by kernel_rfl)) (by rw [hd]; simp))⟩
    · rintro d a w' ⟨u80, u81, u82, u83, u84, u79, u85, u86, u14, u15, Aq1, cq1, Rq1, dq1, Ar0, cr0, Rr0, dr0, lo0, hi0, lo1, hi1, gL, rfl, hC, f0, g1_0, g1_1, f1, f2, f3, f4, f5, f6, f7, f8, f10, m0, s0, m1, s1, ga, ka, ks⟩ hcl hd hdep K hK
      replace hcl := Lib.hid hcl; replace hdep := Lib.hid hdep; replace hK := Lib.hid hK; have hsz := hC.out.size
      have cls0 : d 4 = true := (dep_of (hcl.out 5 _ rfl (dep_of (hcl.out 6 _ rfl (dep_of hdep.out 6 (by kernel_rfl))) 5 (by kernel_rfl))) 4 (by kernel_rfl))
      have cls : upd d 9 4 = false → False := fun h => by have h9 : d 4 = false := h; rw [cls0] at h9; cases h9
      obtain rfl := f8.out (dep_of hdep.out 8 (by kernel_rfl))
      obtain rfl := f6.out (dep_of hdep.out 6 (by kernel_rfl))
      have qa := dep_of hdep.out 8 (by kernel_rfl)
      have ga1 := (ga.out qa).1
      have ga2 := (ga.out qa).2
      have kz := ka.out qa hd
      have kc := kz.cells
      have kf := kz.frozens
      have hch : Chg gL (gL + 1) w' ((((((((w'.setCell ⟨gL, 0, none⟩ (.int .i64 (doAct v0 x1 y1 z1).1.book.room)).setCell ⟨gL, 1, none⟩ (.int .i64 (doAct v0 x1 y1 z1).1.book.start)).setCell ⟨gL, 2, none⟩ (.slice Ar0 (doAct v0 x1 y1 z1).1.book.evs.length cr0)).setCell ⟨gL, 3, none⟩ (.int .i64 (doAct v0 x1 y1 z1).1.book.level)).setCell ⟨gL, 4, none⟩ (.int .i64 (doAct v0 x1 y1 z1).1.book.rained)).setCell ⟨gL, 5, none⟩ (.int .i64 (doAct v0 x1 y1 z1).1.book.drunk)).setCell ⟨gL, 6, none⟩ (.int .i64 (doAct v0 x1 y1 z1).1.book.lost)).setCell ⟨gL, 7, none⟩ (.slice Rr0 (doAct v0 x1 y1 z1).1.rights.length dr0)) := by repeat' (first | (with_reducible exact Chg.refl _ _ _) | (refine Chg.set ?_ ?_ ?_ _) | (show gL ≤ gL; omega) | (show gL < gL + 1; omega))
      rw [ha0.out]
      simp only [Act.put, List.setIfInBounds_toArray, List.set_cons_zero, List.set_cons_succ]
      go_simp
      refine hK.out _ _ ⟨u80, u81, u82, u83, u84, u79, _, u86, _, u15, Aq1, cq1, Rq1, dq1, Ar0, cr0, Rr0, dr0, lo0, hi0, lo1, hi1, gL, (by rw [ha0.out]; simp only [Act.put, List.setIfInBounds_toArray, List.set_cons_zero, List.set_cons_succ]), (Chg.below hC.out hch ga1 hsz), f0, (fun _ h => (cls h).elim), (fun _ h => (cls h).elim), f1, f2, f3, f4, f5, f6, f7, f8, f10, (fun h => ⟨Row2.chg (m0.out h).1 hch (by have := s0.out h qa; omega), (m0.out h).2.1, Nat.le_trans (m0.out h).2.2 hch.size⟩), s0, (fun h => ⟨Row2.chg (m1.out h).1 hch (by have := s1.out h qa; omega), (m1.out h).2.1, Nat.le_trans (m1.out h).2.2 hch.size⟩), s1, (fun _ => ⟨ga1, Nat.lt_of_lt_of_le ga2 hch.size⟩), (fun _ h => absurd h (by simp [upd])), (fun _ => by exact blkT)⟩
    · rintro d a w' ⟨u80, u81, u82, u83, u84, u79, u85, u86, u14, u15, Aq1, cq1, Rq1, dq1, Ar0, cr0, Rr0, dr0, lo0, hi0, lo1, hi1, gL, rfl, hC, f0, g1_0, g1_1, f1, f2, f3, f4, f5, f6, f7, f8, f10, m0, s0, m1, s1, ga, ka, ks⟩ hcl hd hdep K hK
      replace hcl := Lib.hid hcl; replace hdep := Lib.hid hdep; replace hK := Lib.hid hK; have hsz := hC.out.size
      obtain rfl := f7.out (dep_of hdep.out 7 (by kernel_rfl))
      rw [ha0.out]
      simp only [Act.put, List.setIfInBounds_toArray, List.set_cons_zero, List.set_cons_succ]
      go_simp
      refine hK.out _ _ ⟨u80, u81, u82, u83, u84, u79, u85, _, u14, _, Aq1, cq1, Rq1, dq1, Ar0, cr0, Rr0, dr0, lo0, hi0, lo1, hi1, gL, (by rw [ha0.out]; simp only [Act.put, List.setIfInBounds_toArray, List.set_cons_zero, List.set_cons_succ]), hC, f0, g1_0, g1_1, f1, f2, f3, f4, f5, f6, f7, f8, (fun _ => rfl), m0, s0, m1, s1, ga, ka, ks⟩
  rintro d a wc12 ⟨u80, u81, u82, u83, u84, u79, u85, u86, u14, u15, Aq1_12, cq1_12, Rq1_12, dq1_12, Ar0_12, cr0_12, Rr0_12, dr0_12, lo0_12, hi0_12, lo1_12, hi1_12, gL_12, rfl, hb12, f0, g1_0, g1_1, f1, f2, f3, f4, f5, f6, f7, f8, f10, m0, s0, m1, s1, ga, ka, ks⟩ hall
  obtain rfl := f0.out (hall 0 (by decide))
  obtain rfl := f1.out (hall 1 (by decide))
  obtain rfl := f2.out (hall 2 (by decide))
  obtain rfl := f3.out (hall 3 (by decide))
  obtain rfl := f4.out (hall 4 (by decide))
  obtain rfl := f5.out (hall 5 (by decide))
  obtain rfl := f6.out (hall 6 (by decide))
  obtain rfl := f7.out (hall 7 (by decide))
  obtain rfl := f8.out (hall 8 (by decide))
  obtain rfl := f10.out (hall 10 (by decide))
  have ho0_12 := (m0.out (hall 4 (by decide))).1
  have hlo0_12 := (m0.out (hall 4 (by decide))).2.1
  have hhi0_12 := (m0.out (hall 4 (by decide))).2.2
  have hgo0_12 := s0.out (hall 4 (by decide)) (hall 8 (by decide))
  have ho1_12 := (m1.out (hall 4 (by decide))).1
  have hlo1_12 := (m1.out (hall 4 (by decide))).2.1
  have hhi1_12 := (m1.out (hall 4 (by decide))).2.2
  have hgo1_12 := s1.out (hall 4 (by decide)) (hall 8 (by decide))
  have hgL12 := (ga.out (hall 8 (by decide))).1
  have hlL12 := (ga.out (hall 8 (by decide))).2
  have kL12 := ks.out (hall 9 (by decide))
  clear f0 g1_0 g1_1 f1 f2 f3 f4 f5 f6 f7 f8 f10 m0 s0 m1 s1 ga ka ks hall
  rw [ha0.out]
  simp only [Act.put, List.setIfInBounds_toArray, List.set_cons_zero, List.set_cons_succ]
  clear ha0
  replace hb12 := hb12.out
  have ow0_2_0_12' := Row2.below ow0_2_0_12 hb12 (by omega)
  have ow0_2_1_12' := Row2.below ow0_2_1_12 hb12 (by omega)
  have ot3_0_12' := Row2.below ot3_0_12 hb12 (by omega)
  have ot3_1_12' := Row2.below ot3_1_12 hb12 (by omega)
  have og0_4_0_12' := Row2.below og0_4_0_12 hb12 (by omega)
  have og0_4_1_12' := Row2.below og0_4_1_12 hb12 (by omega)
  have kb1_0_12' := (hb12.cell (p := ⟨w.heap.size, 0, none⟩) (by show w.heap.size < _; omega)).trans kb1_0_12
  have kb1_1_12' := (hb12.cell (p := ⟨w.heap.size, 1, none⟩) (by show w.heap.size < _; omega)).trans kb1_1_12
  have kb1_2_12' := (hb12.cell (p := ⟨w.heap.size, 2, none⟩) (by show w.heap.size < _; omega)).trans kb1_2_12
  have kb1_3_12' := (hb12.cell (p := ⟨w.heap.size, 3, none⟩) (by show w.heap.size < _; omega)).trans kb1_3_12
  have kb1_4_12' := (hb12.cell (p := ⟨w.heap.size, 4, none⟩) (by show w.heap.size < _; omega)).trans kb1_4_12
  have kb1_5_12' := (hb12.cell (p := ⟨w.heap.size, 5, none⟩) (by show w.heap.size < _; omega)).trans kb1_5_12
  have kb1_6_12' := (hb12.cell (p := ⟨w.heap.size, 6, none⟩) (by show w.heap.size < _; omega)).trans kb1_6_12
  have kb1_7_12' := (hb12.cell (p := ⟨w.heap.size, 7, none⟩) (by show w.heap.size < _; omega)).trans kb1_7_12
  have kb2_0_12' := (hb12.cell (p := ⟨w.heap.size + 1, 0, none⟩) (by show w.heap.size + 1 < _; omega)).trans kb2_0_12
  have kb2_1_12' := (hb12.cell (p := ⟨w.heap.size + 1, 1, none⟩) (by show w.heap.size + 1 < _; omega)).trans kb2_1_12
  have kb2_2_12' := (hb12.cell (p := ⟨w.heap.size + 1, 2, none⟩) (by show w.heap.size + 1 < _; omega)).trans kb2_2_12
  have kb3_0_12' := (hb12.cell (p := ⟨gL_2, 0, none⟩) (by show gL_2 < _; omega)).trans kb3_0_12
  have kb3_1_12' := (hb12.cell (p := ⟨gL_2, 1, none⟩) (by show gL_2 < _; omega)).trans kb3_1_12
  have kb3_2_12' := (hb12.cell (p := ⟨gL_2, 2, none⟩) (by show gL_2 < _; omega)).trans kb3_2_12
  have kb3_3_12' := (hb12.cell (p := ⟨gL_2, 3, none⟩) (by show gL_2 < _; omega)).trans kb3_3_12
  have kb3_4_12' := (hb12.cell (p := ⟨gL_2, 4, none⟩) (by show gL_2 < _; omega)).trans kb3_4_12
  have kb3_5_12' := (hb12.cell (p := ⟨gL_2, 5, none⟩) (by show gL_2 < _; omega)).trans kb3_5_12
  have kb3_6_12' := (hb12.cell (p := ⟨gL_2, 6, none⟩) (by show gL_2 < _; omega)).trans kb3_6_12
  have kb3_7_12' := (hb12.cell (p := ⟨gL_2, 7, none⟩) (by show gL_2 < _; omega)).trans kb3_7_12
  have kb4_0_12' := (hb12.cell (p := ⟨w3.heap.size, 0, none⟩) (by show w3.heap.size < _; omega)).trans kb4_0_12
  have kb4_1_12' := (hb12.cell (p := ⟨w3.heap.size, 1, none⟩) (by show w3.heap.size < _; omega)).trans kb4_1_12
  have kb4_2_12' := (hb12.cell (p := ⟨w3.heap.size, 2, none⟩) (by show w3.heap.size < _; omega)).trans kb4_2_12
  have kb4_3_12' := (hb12.cell (p := ⟨w3.heap.size, 3, none⟩) (by show w3.heap.size < _; omega)).trans kb4_3_12
  have kb4_4_12' := (hb12.cell (p := ⟨w3.heap.size, 4, none⟩) (by show w3.heap.size < _; omega)).trans kb4_4_12
  have kb4_5_12' := (hb12.cell (p := ⟨w3.heap.size, 5, none⟩) (by show w3.heap.size < _; omega)).trans kb4_5_12
  have kb4_6_12' := (hb12.cell (p := ⟨w3.heap.size, 6, none⟩) (by show w3.heap.size < _; omega)).trans kb4_6_12
  have kb4_7_12' := (hb12.cell (p := ⟨w3.heap.size, 7, none⟩) (by show w3.heap.size < _; omega)).trans kb4_7_12
  have kb5_0_12' := (hb12.cell (p := ⟨gL_4, 0, none⟩) (by show gL_4 < _; omega)).trans kb5_0_12
  have kb5_1_12' := (hb12.cell (p := ⟨gL_4, 1, none⟩) (by show gL_4 < _; omega)).trans kb5_1_12
  have kb5_2_12' := (hb12.cell (p := ⟨gL_4, 2, none⟩) (by show gL_4 < _; omega)).trans kb5_2_12
  have kb5_3_12' := (hb12.cell (p := ⟨gL_4, 3, none⟩) (by show gL_4 < _; omega)).trans kb5_3_12
  have kb5_4_12' := (hb12.cell (p := ⟨gL_4, 4, none⟩) (by show gL_4 < _; omega)).trans kb5_4_12
  have kb5_5_12' := (hb12.cell (p := ⟨gL_4, 5, none⟩) (by show gL_4 < _; omega)).trans kb5_5_12
  have kb5_6_12' := (hb12.cell (p := ⟨gL_4, 6, none⟩) (by show gL_4 < _; omega)).trans kb5_6_12
  have kb5_7_12' := (hb12.cell (p := ⟨gL_4, 7, none⟩) (by show gL_4 < _; omega)).trans kb5_7_12
  have hB12' := hB12.trans (hb12.mono hB12.size)
  have hz12' : W12.heap.size ≤ wc12.heap.size := hb12.size
  have hl_b1_12' : w.heap.size < wc12.heap.size := by omega
  have hl_b2_12' : w.heap.size + 1 < wc12.heap.size := by omega
  have hl_b3_12' : gL_2 < wc12.heap.size := by omega
  have hl_b4_12' : w3.heap.size < wc12.heap.size := by omega
  have hl_b5_12' : gL_4 < wc12.heap.size := by omega
  have kc12_0 : wc12.cell? ⟨gL_12, 0, none⟩ = some (.int .i64 (doAct v0 x1 y1 z1).1.book.room) := kL12.cell 0
  have kc12_1 : wc12.cell? ⟨gL_12, 1, none⟩ = some (.int .i64 (doAct v0 x1 y1 z1).1.book.start) := kL12.cell 1
  have kc12_2 : wc12.cell? ⟨gL_12, 2, none⟩ = some (.slice Ar0_12 (doAct v0 x1 y1 z1).1.book.evs.length cr0_12) := kL12.cell 2
  have kc12_3 : wc12.cell? ⟨gL_12, 3, none⟩ = some (.int .i64 (doAct v0 x1 y1 z1).1.book.level) := kL12.cell 3
  have kc12_4 : wc12.cell? ⟨gL_12, 4, none⟩ = some (.int .i64 (doAct v0 x1 y1 z1).1.book.rained) := kL12.cell 4
  have kc12_5 : wc12.cell? ⟨gL_12, 5, none⟩ = some (.int .i64 (doAct v0 x1 y1 z1).1.book.drunk) := kL12.cell 5
  have kc12_6 : wc12.cell? ⟨gL_12, 6, none⟩ = some (.int .i64 (doAct v0 x1 y1 z1).1.book.lost) := kL12.cell 6
  have kc12_7 : wc12.cell? ⟨gL_12, 7, none⟩ = some (.slice Rr0_12 (doAct v0 x1 y1 z1).1.rights.length dr0_12) := kL12.cell 7
  have oh0_12_0_n := ho0_12
  have oh0_12_1_n := ho1_12
  clear ow0_2_0_12 ow0_2_1_12 ot3_0_12 ot3_1_12 og0_4_0_12 og0_4_1_12 kb1_0_12 kb1_1_12 kb1_2_12 kb1_3_12 kb1_4_12 kb1_5_12 kb1_6_12 kb1_7_12 kb2_0_12 kb2_1_12 kb2_2_12 kb3_0_12 kb3_1_12 kb3_2_12 kb3_3_12 kb3_4_12 kb3_5_12 kb3_6_12 kb3_7_12 kb4_0_12 kb4_1_12 kb4_2_12 kb4_3_12 kb4_4_12 kb4_5_12 kb4_6_12 kb4_7_12 kb5_0_12 kb5_1_12 kb5_2_12 kb5_3_12 kb5_4_12 kb5_5_12 kb5_6_12 kb5_7_12 kL12 ho0_12 ho1_12
  go_wp2_with fail
  first | refine name_world ?_ | refine name_wp ?_
  intro W13 hW13
  have hp13 : Below wc12.heap.size wc12 W13 := by rw [hW13]; repeat' (first | (with_reducible exact Below.refl _ _) | (with_reducible refine Below.alloc ?_ ?_ _) | (with_reducible refine Below.setCell ?_ ?_ _) | (with_reducible refine Below.drew ?_) | (simp; done) | (simp; omega))
  have ow0_2_0_13 := Row2.below ow0_2_0_12' hp13 (by omega)
  have ow0_2_1_13 := Row2.below ow0_2_1_12' hp13 (by omega)
  have ot3_0_13 := Row2.below ot3_0_12' hp13 (by omega)
  have ot3_1_13 := Row2.below ot3_1_12' hp13 (by omega)
  have og0_4_0_13 := Row2.below og0_4_0_12' hp13 (by omega)
  have og0_4_1_13 := Row2.below og0_4_1_12' hp13 (by omega)
  have oh0_12_0_13 := Row2.below oh0_12_0_n hp13 (by omega)
  have oh0_12_1_13 := Row2.below oh0_12_1_n hp13 (by omega)
  have kb1_0_13 := (hp13.cell (p := ⟨w.heap.size, 0, none⟩) (by show w.heap.size < _; omega)).trans kb1_0_12'
  have kb1_1_13 := (hp13.cell (p := ⟨w.heap.size, 1, none⟩) (by show w.heap.size < _; omega)).trans kb1_1_12'
  have kb1_2_13 := (hp13.cell (p := ⟨w.heap.size, 2, none⟩) (by show w.heap.size < _; omega)).trans kb1_2_12'
  have kb1_3_13 := (hp13.cell (p := ⟨w.heap.size, 3, none⟩) (by show w.heap.size < _; omega)).trans kb1_3_12'
  have kb1_4_13 := (hp13.cell (p := ⟨w.heap.size, 4, none⟩) (by show w.heap.size < _; omega)).trans kb1_4_12'
  have kb1_5_13 := (hp13.cell (p := ⟨w.heap.size, 5, none⟩) (by show w.heap.size < _; omega)).trans kb1_5_12'
  have kb1_6_13 := (hp13.cell (p := ⟨w.heap.size, 6, none⟩) (by show w.heap.size < _; omega)).trans kb1_6_12'
  have kb1_7_13 := (hp13.cell (p := ⟨w.heap.size, 7, none⟩) (by show w.heap.size < _; omega)).trans kb1_7_12'
  have kb2_0_13 := (hp13.cell (p := ⟨w.heap.size + 1, 0, none⟩) (by show w.heap.size + 1 < _; omega)).trans kb2_0_12'
  have kb2_1_13 := (hp13.cell (p := ⟨w.heap.size + 1, 1, none⟩) (by show w.heap.size + 1 < _; omega)).trans kb2_1_12'
  have kb2_2_13 := (hp13.cell (p := ⟨w.heap.size + 1, 2, none⟩) (by show w.heap.size + 1 < _; omega)).trans kb2_2_12'
  have kb3_0_13 := (hp13.cell (p := ⟨gL_2, 0, none⟩) (by show gL_2 < _; omega)).trans kb3_0_12'
  have kb3_1_13 := (hp13.cell (p := ⟨gL_2, 1, none⟩) (by show gL_2 < _; omega)).trans kb3_1_12'
  have kb3_2_13 := (hp13.cell (p := ⟨gL_2, 2, none⟩) (by show gL_2 < _; omega)).trans kb3_2_12'
  have kb3_3_13 := (hp13.cell (p := ⟨gL_2, 3, none⟩) (by show gL_2 < _; omega)).trans kb3_3_12'
  have kb3_4_13 := (hp13.cell (p := ⟨gL_2, 4, none⟩) (by show gL_2 < _; omega)).trans kb3_4_12'
  have kb3_5_13 := (hp13.cell (p := ⟨gL_2, 5, none⟩) (by show gL_2 < _; omega)).trans kb3_5_12'
  have kb3_6_13 := (hp13.cell (p := ⟨gL_2, 6, none⟩) (by show gL_2 < _; omega)).trans kb3_6_12'
  have kb3_7_13 := (hp13.cell (p := ⟨gL_2, 7, none⟩) (by show gL_2 < _; omega)).trans kb3_7_12'
  have kb4_0_13 := (hp13.cell (p := ⟨w3.heap.size, 0, none⟩) (by show w3.heap.size < _; omega)).trans kb4_0_12'
  have kb4_1_13 := (hp13.cell (p := ⟨w3.heap.size, 1, none⟩) (by show w3.heap.size < _; omega)).trans kb4_1_12'
  have kb4_2_13 := (hp13.cell (p := ⟨w3.heap.size, 2, none⟩) (by show w3.heap.size < _; omega)).trans kb4_2_12'
  have kb4_3_13 := (hp13.cell (p := ⟨w3.heap.size, 3, none⟩) (by show w3.heap.size < _; omega)).trans kb4_3_12'
  have kb4_4_13 := (hp13.cell (p := ⟨w3.heap.size, 4, none⟩) (by show w3.heap.size < _; omega)).trans kb4_4_12'
  have kb4_5_13 := (hp13.cell (p := ⟨w3.heap.size, 5, none⟩) (by show w3.heap.size < _; omega)).trans kb4_5_12'
  have kb4_6_13 := (hp13.cell (p := ⟨w3.heap.size, 6, none⟩) (by show w3.heap.size < _; omega)).trans kb4_6_12'
  have kb4_7_13 := (hp13.cell (p := ⟨w3.heap.size, 7, none⟩) (by show w3.heap.size < _; omega)).trans kb4_7_12'
  have kb5_0_13 := (hp13.cell (p := ⟨gL_4, 0, none⟩) (by show gL_4 < _; omega)).trans kb5_0_12'
  have kb5_1_13 := (hp13.cell (p := ⟨gL_4, 1, none⟩) (by show gL_4 < _; omega)).trans kb5_1_12'
  have kb5_2_13 := (hp13.cell (p := ⟨gL_4, 2, none⟩) (by show gL_4 < _; omega)).trans kb5_2_12'
  have kb5_3_13 := (hp13.cell (p := ⟨gL_4, 3, none⟩) (by show gL_4 < _; omega)).trans kb5_3_12'
  have kb5_4_13 := (hp13.cell (p := ⟨gL_4, 4, none⟩) (by show gL_4 < _; omega)).trans kb5_4_12'
  have kb5_5_13 := (hp13.cell (p := ⟨gL_4, 5, none⟩) (by show gL_4 < _; omega)).trans kb5_5_12'
  have kb5_6_13 := (hp13.cell (p := ⟨gL_4, 6, none⟩) (by show gL_4 < _; omega)).trans kb5_6_12'
  have kb5_7_13 := (hp13.cell (p := ⟨gL_4, 7, none⟩) (by show gL_4 < _; omega)).trans kb5_7_12'
  have kb6_0_13 := (hp13.cell (p := ⟨gL_12, 0, none⟩) (by show gL_12 < _; omega)).trans kc12_0
  have kb6_1_13 := (hp13.cell (p := ⟨gL_12, 1, none⟩) (by show gL_12 < _; omega)).trans kc12_1
  have kb6_2_13 := (hp13.cell (p := ⟨gL_12, 2, none⟩) (by show gL_12 < _; omega)).trans kc12_2
  have kb6_3_13 := (hp13.cell (p := ⟨gL_12, 3, none⟩) (by show gL_12 < _; omega)).trans kc12_3
  have kb6_4_13 := (hp13.cell (p := ⟨gL_12, 4, none⟩) (by show gL_12 < _; omega)).trans kc12_4
  have kb6_5_13 := (hp13.cell (p := ⟨gL_12, 5, none⟩) (by show gL_12 < _; omega)).trans kc12_5
  have kb6_6_13 := (hp13.cell (p := ⟨gL_12, 6, none⟩) (by show gL_12 < _; omega)).trans kc12_6
  have kb6_7_13 := (hp13.cell (p := ⟨gL_12, 7, none⟩) (by show gL_12 < _; omega)).trans kc12_7
  have hB13 := hB12'.trans (hp13.mono hB12'.size)
  have hz13 : wc12.heap.size ≤ W13.heap.size := hp13.size
  have hl_b1_13 : w.heap.size < W13.heap.size := by omega
  have hl_b2_13 : w.heap.size + 1 < W13.heap.size := by omega
  have hl_b3_13 : gL_2 < W13.heap.size := by omega
  have hl_b4_13 : w3.heap.size < W13.heap.size := by omega
  have hl_b5_13 : gL_4 < W13.heap.size := by omega
  have hl_b6_13 : gL_12 < W13.heap.size := by omega
  have HW13 := Lib.hid hW13; clear hW13
  clear ow0_2_0_12' ow0_2_1_12' ot3_0_12' ot3_1_12' og0_4_0_12' og0_4_1_12' oh0_12_0_n oh0_12_1_n kb1_0_12' kb1_1_12' kb1_2_12' kb1_3_12' kb1_4_12' kb1_5_12' kb1_6_12' kb1_7_12' kb2_0_12' kb2_1_12' kb2_2_12' kb3_0_12' kb3_1_12' kb3_2_12' kb3_3_12' kb3_4_12' kb3_5_12' kb3_6_12' kb3_7_12' kb4_0_12' kb4_1_12' kb4_2_12' kb4_3_12' kb4_4_12' kb4_5_12' kb4_6_12' kb4_7_12' kb5_0_12' kb5_1_12' kb5_2_12' kb5_3_12' kb5_4_12' kb5_5_12' kb5_6_12' kb5_7_12' kc12_0 kc12_1 kc12_2 kc12_3 kc12_4 kc12_5 kc12_6 kc12_7
  refine (eqVillage_same Ar0_12 cr0_12 Rr0_12 dr0_12 Ar0_2 cr0_2 Rr0_2 dr0_2 ((doAct v0 x1 y1 z1).1) _ oh0_12_0_13.rd oh0_12_1_13.rd ow0_2_0_13.rd ow0_2_1_13.rd).mono ?_
  rintro e w13 ⟨rfl, hb13⟩
  try simp only [Vg.val]
  have ow0_2_0_13' := Row2.below ow0_2_0_13 hb13 (by omega)
  have ow0_2_1_13' := Row2.below ow0_2_1_13 hb13 (by omega)
  have ot3_0_13' := Row2.below ot3_0_13 hb13 (by omega)
  have ot3_1_13' := Row2.below ot3_1_13 hb13 (by omega)
  have og0_4_0_13' := Row2.below og0_4_0_13 hb13 (by omega)
  have og0_4_1_13' := Row2.below og0_4_1_13 hb13 (by omega)
  have oh0_12_0_13' := Row2.below oh0_12_0_13 hb13 (by omega)
  have oh0_12_1_13' := Row2.below oh0_12_1_13 hb13 (by omega)
  have kb1_0_13' := (hb13.cell (p := ⟨w.heap.size, 0, none⟩) (by show w.heap.size < _; omega)).trans kb1_0_13
  have kb1_1_13' := (hb13.cell (p := ⟨w.heap.size, 1, none⟩) (by show w.heap.size < _; omega)).trans kb1_1_13
  have kb1_2_13' := (hb13.cell (p := ⟨w.heap.size, 2, none⟩) (by show w.heap.size < _; omega)).trans kb1_2_13
  have kb1_3_13' := (hb13.cell (p := ⟨w.heap.size, 3, none⟩) (by show w.heap.size < _; omega)).trans kb1_3_13
  have kb1_4_13' := (hb13.cell (p := ⟨w.heap.size, 4, none⟩) (by show w.heap.size < _; omega)).trans kb1_4_13
  have kb1_5_13' := (hb13.cell (p := ⟨w.heap.size, 5, none⟩) (by show w.heap.size < _; omega)).trans kb1_5_13
  have kb1_6_13' := (hb13.cell (p := ⟨w.heap.size, 6, none⟩) (by show w.heap.size < _; omega)).trans kb1_6_13
  have kb1_7_13' := (hb13.cell (p := ⟨w.heap.size, 7, none⟩) (by show w.heap.size < _; omega)).trans kb1_7_13
  have kb2_0_13' := (hb13.cell (p := ⟨w.heap.size + 1, 0, none⟩) (by show w.heap.size + 1 < _; omega)).trans kb2_0_13
  have kb2_1_13' := (hb13.cell (p := ⟨w.heap.size + 1, 1, none⟩) (by show w.heap.size + 1 < _; omega)).trans kb2_1_13
  have kb2_2_13' := (hb13.cell (p := ⟨w.heap.size + 1, 2, none⟩) (by show w.heap.size + 1 < _; omega)).trans kb2_2_13
  have kb3_0_13' := (hb13.cell (p := ⟨gL_2, 0, none⟩) (by show gL_2 < _; omega)).trans kb3_0_13
  have kb3_1_13' := (hb13.cell (p := ⟨gL_2, 1, none⟩) (by show gL_2 < _; omega)).trans kb3_1_13
  have kb3_2_13' := (hb13.cell (p := ⟨gL_2, 2, none⟩) (by show gL_2 < _; omega)).trans kb3_2_13
  have kb3_3_13' := (hb13.cell (p := ⟨gL_2, 3, none⟩) (by show gL_2 < _; omega)).trans kb3_3_13
  have kb3_4_13' := (hb13.cell (p := ⟨gL_2, 4, none⟩) (by show gL_2 < _; omega)).trans kb3_4_13
  have kb3_5_13' := (hb13.cell (p := ⟨gL_2, 5, none⟩) (by show gL_2 < _; omega)).trans kb3_5_13
  have kb3_6_13' := (hb13.cell (p := ⟨gL_2, 6, none⟩) (by show gL_2 < _; omega)).trans kb3_6_13
  have kb3_7_13' := (hb13.cell (p := ⟨gL_2, 7, none⟩) (by show gL_2 < _; omega)).trans kb3_7_13
  have kb4_0_13' := (hb13.cell (p := ⟨w3.heap.size, 0, none⟩) (by show w3.heap.size < _; omega)).trans kb4_0_13
  have kb4_1_13' := (hb13.cell (p := ⟨w3.heap.size, 1, none⟩) (by show w3.heap.size < _; omega)).trans kb4_1_13
  have kb4_2_13' := (hb13.cell (p := ⟨w3.heap.size, 2, none⟩) (by show w3.heap.size < _; omega)).trans kb4_2_13
  have kb4_3_13' := (hb13.cell (p := ⟨w3.heap.size, 3, none⟩) (by show w3.heap.size < _; omega)).trans kb4_3_13
  have kb4_4_13' := (hb13.cell (p := ⟨w3.heap.size, 4, none⟩) (by show w3.heap.size < _; omega)).trans kb4_4_13
  have kb4_5_13' := (hb13.cell (p := ⟨w3.heap.size, 5, none⟩) (by show w3.heap.size < _; omega)).trans kb4_5_13
  have kb4_6_13' := (hb13.cell (p := ⟨w3.heap.size, 6, none⟩) (by show w3.heap.size < _; omega)).trans kb4_6_13
  have kb4_7_13' := (hb13.cell (p := ⟨w3.heap.size, 7, none⟩) (by show w3.heap.size < _; omega)).trans kb4_7_13
  have kb5_0_13' := (hb13.cell (p := ⟨gL_4, 0, none⟩) (by show gL_4 < _; omega)).trans kb5_0_13
  have kb5_1_13' := (hb13.cell (p := ⟨gL_4, 1, none⟩) (by show gL_4 < _; omega)).trans kb5_1_13
  have kb5_2_13' := (hb13.cell (p := ⟨gL_4, 2, none⟩) (by show gL_4 < _; omega)).trans kb5_2_13
  have kb5_3_13' := (hb13.cell (p := ⟨gL_4, 3, none⟩) (by show gL_4 < _; omega)).trans kb5_3_13
  have kb5_4_13' := (hb13.cell (p := ⟨gL_4, 4, none⟩) (by show gL_4 < _; omega)).trans kb5_4_13
  have kb5_5_13' := (hb13.cell (p := ⟨gL_4, 5, none⟩) (by show gL_4 < _; omega)).trans kb5_5_13
  have kb5_6_13' := (hb13.cell (p := ⟨gL_4, 6, none⟩) (by show gL_4 < _; omega)).trans kb5_6_13
  have kb5_7_13' := (hb13.cell (p := ⟨gL_4, 7, none⟩) (by show gL_4 < _; omega)).trans kb5_7_13
  have kb6_0_13' := (hb13.cell (p := ⟨gL_12, 0, none⟩) (by show gL_12 < _; omega)).trans kb6_0_13
  have kb6_1_13' := (hb13.cell (p := ⟨gL_12, 1, none⟩) (by show gL_12 < _; omega)).trans kb6_1_13
  have kb6_2_13' := (hb13.cell (p := ⟨gL_12, 2, none⟩) (by show gL_12 < _; omega)).trans kb6_2_13
  have kb6_3_13' := (hb13.cell (p := ⟨gL_12, 3, none⟩) (by show gL_12 < _; omega)).trans kb6_3_13
  have kb6_4_13' := (hb13.cell (p := ⟨gL_12, 4, none⟩) (by show gL_12 < _; omega)).trans kb6_4_13
  have kb6_5_13' := (hb13.cell (p := ⟨gL_12, 5, none⟩) (by show gL_12 < _; omega)).trans kb6_5_13
  have kb6_6_13' := (hb13.cell (p := ⟨gL_12, 6, none⟩) (by show gL_12 < _; omega)).trans kb6_6_13
  have kb6_7_13' := (hb13.cell (p := ⟨gL_12, 7, none⟩) (by show gL_12 < _; omega)).trans kb6_7_13
  have hB13' := hB13.trans (hb13.mono hB13.size)
  have hz13' : W13.heap.size ≤ w13.heap.size := hb13.size
  have hl_b1_13' : w.heap.size < w13.heap.size := by omega
  have hl_b2_13' : w.heap.size + 1 < w13.heap.size := by omega
  have hl_b3_13' : gL_2 < w13.heap.size := by omega
  have hl_b4_13' : w3.heap.size < w13.heap.size := by omega
  have hl_b5_13' : gL_4 < w13.heap.size := by omega
  have hl_b6_13' : gL_12 < w13.heap.size := by omega
  clear ow0_2_0_13 ow0_2_1_13 ot3_0_13 ot3_1_13 og0_4_0_13 og0_4_1_13 oh0_12_0_13 oh0_12_1_13 kb1_0_13 kb1_1_13 kb1_2_13 kb1_3_13 kb1_4_13 kb1_5_13 kb1_6_13 kb1_7_13 kb2_0_13 kb2_1_13 kb2_2_13 kb3_0_13 kb3_1_13 kb3_2_13 kb3_3_13 kb3_4_13 kb3_5_13 kb3_6_13 kb3_7_13 kb4_0_13 kb4_1_13 kb4_2_13 kb4_3_13 kb4_4_13 kb4_5_13 kb4_6_13 kb4_7_13 kb5_0_13 kb5_1_13 kb5_2_13 kb5_3_13 kb5_4_13 kb5_5_13 kb5_6_13 kb5_7_13 kb6_0_13 kb6_1_13 kb6_2_13 kb6_3_13 kb6_4_13 kb6_5_13 kb6_6_13 kb6_7_13
  go_wp2_with fail
  first | refine name_world ?_ | refine name_wp ?_
  intro W14 hW14
  have hp14 : Below w13.heap.size w13 W14 := by rw [hW14]; repeat' (first | (with_reducible exact Below.refl _ _) | (with_reducible refine Below.alloc ?_ ?_ _) | (with_reducible refine Below.setCell ?_ ?_ _) | (with_reducible refine Below.drew ?_) | (simp; done) | (simp; omega))
  have ow0_2_0_14 := Row2.below ow0_2_0_13' hp14 (by omega)
  have ow0_2_1_14 := Row2.below ow0_2_1_13' hp14 (by omega)
  have ot3_0_14 := Row2.below ot3_0_13' hp14 (by omega)
  have ot3_1_14 := Row2.below ot3_1_13' hp14 (by omega)
  have og0_4_0_14 := Row2.below og0_4_0_13' hp14 (by omega)
  have og0_4_1_14 := Row2.below og0_4_1_13' hp14 (by omega)
  have oh0_12_0_14 := Row2.below oh0_12_0_13' hp14 (by omega)
  have oh0_12_1_14 := Row2.below oh0_12_1_13' hp14 (by omega)
  have kb1_0_14 := (hp14.cell (p := ⟨w.heap.size, 0, none⟩) (by show w.heap.size < _; omega)).trans kb1_0_13'
  have kb1_1_14 := (hp14.cell (p := ⟨w.heap.size, 1, none⟩) (by show w.heap.size < _; omega)).trans kb1_1_13'
  have kb1_2_14 := (hp14.cell (p := ⟨w.heap.size, 2, none⟩) (by show w.heap.size < _; omega)).trans kb1_2_13'
  have kb1_3_14 := (hp14.cell (p := ⟨w.heap.size, 3, none⟩) (by show w.heap.size < _; omega)).trans kb1_3_13'
  have kb1_4_14 := (hp14.cell (p := ⟨w.heap.size, 4, none⟩) (by show w.heap.size < _; omega)).trans kb1_4_13'
  have kb1_5_14 := (hp14.cell (p := ⟨w.heap.size, 5, none⟩) (by show w.heap.size < _; omega)).trans kb1_5_13'
  have kb1_6_14 := (hp14.cell (p := ⟨w.heap.size, 6, none⟩) (by show w.heap.size < _; omega)).trans kb1_6_13'
  have kb1_7_14 := (hp14.cell (p := ⟨w.heap.size, 7, none⟩) (by show w.heap.size < _; omega)).trans kb1_7_13'
  have kb2_0_14 := (hp14.cell (p := ⟨w.heap.size + 1, 0, none⟩) (by show w.heap.size + 1 < _; omega)).trans kb2_0_13'
  have kb2_1_14 := (hp14.cell (p := ⟨w.heap.size + 1, 1, none⟩) (by show w.heap.size + 1 < _; omega)).trans kb2_1_13'
  have kb2_2_14 := (hp14.cell (p := ⟨w.heap.size + 1, 2, none⟩) (by show w.heap.size + 1 < _; omega)).trans kb2_2_13'
  have kb3_0_14 := (hp14.cell (p := ⟨gL_2, 0, none⟩) (by show gL_2 < _; omega)).trans kb3_0_13'
  have kb3_1_14 := (hp14.cell (p := ⟨gL_2, 1, none⟩) (by show gL_2 < _; omega)).trans kb3_1_13'
  have kb3_2_14 := (hp14.cell (p := ⟨gL_2, 2, none⟩) (by show gL_2 < _; omega)).trans kb3_2_13'
  have kb3_3_14 := (hp14.cell (p := ⟨gL_2, 3, none⟩) (by show gL_2 < _; omega)).trans kb3_3_13'
  have kb3_4_14 := (hp14.cell (p := ⟨gL_2, 4, none⟩) (by show gL_2 < _; omega)).trans kb3_4_13'
  have kb3_5_14 := (hp14.cell (p := ⟨gL_2, 5, none⟩) (by show gL_2 < _; omega)).trans kb3_5_13'
  have kb3_6_14 := (hp14.cell (p := ⟨gL_2, 6, none⟩) (by show gL_2 < _; omega)).trans kb3_6_13'
  have kb3_7_14 := (hp14.cell (p := ⟨gL_2, 7, none⟩) (by show gL_2 < _; omega)).trans kb3_7_13'
  have kb4_0_14 := (hp14.cell (p := ⟨w3.heap.size, 0, none⟩) (by show w3.heap.size < _; omega)).trans kb4_0_13'
  have kb4_1_14 := (hp14.cell (p := ⟨w3.heap.size, 1, none⟩) (by show w3.heap.size < _; omega)).trans kb4_1_13'
  have kb4_2_14 := (hp14.cell (p := ⟨w3.heap.size, 2, none⟩) (by show w3.heap.size < _; omega)).trans kb4_2_13'
  have kb4_3_14 := (hp14.cell (p := ⟨w3.heap.size, 3, none⟩) (by show w3.heap.size < _; omega)).trans kb4_3_13'
  have kb4_4_14 := (hp14.cell (p := ⟨w3.heap.size, 4, none⟩) (by show w3.heap.size < _; omega)).trans kb4_4_13'
  have kb4_5_14 := (hp14.cell (p := ⟨w3.heap.size, 5, none⟩) (by show w3.heap.size < _; omega)).trans kb4_5_13'
  have kb4_6_14 := (hp14.cell (p := ⟨w3.heap.size, 6, none⟩) (by show w3.heap.size < _; omega)).trans kb4_6_13'
  have kb4_7_14 := (hp14.cell (p := ⟨w3.heap.size, 7, none⟩) (by show w3.heap.size < _; omega)).trans kb4_7_13'
  have kb5_0_14 := (hp14.cell (p := ⟨gL_4, 0, none⟩) (by show gL_4 < _; omega)).trans kb5_0_13'
  have kb5_1_14 := (hp14.cell (p := ⟨gL_4, 1, none⟩) (by show gL_4 < _; omega)).trans kb5_1_13'
  have kb5_2_14 := (hp14.cell (p := ⟨gL_4, 2, none⟩) (by show gL_4 < _; omega)).trans kb5_2_13'
  have kb5_3_14 := (hp14.cell (p := ⟨gL_4, 3, none⟩) (by show gL_4 < _; omega)).trans kb5_3_13'
  have kb5_4_14 := (hp14.cell (p := ⟨gL_4, 4, none⟩) (by show gL_4 < _; omega)).trans kb5_4_13'
  have kb5_5_14 := (hp14.cell (p := ⟨gL_4, 5, none⟩) (by show gL_4 < _; omega)).trans kb5_5_13'
  have kb5_6_14 := (hp14.cell (p := ⟨gL_4, 6, none⟩) (by show gL_4 < _; omega)).trans kb5_6_13'
  have kb5_7_14 := (hp14.cell (p := ⟨gL_4, 7, none⟩) (by show gL_4 < _; omega)).trans kb5_7_13'
  have kb6_0_14 := (hp14.cell (p := ⟨gL_12, 0, none⟩) (by show gL_12 < _; omega)).trans kb6_0_13'
  have kb6_1_14 := (hp14.cell (p := ⟨gL_12, 1, none⟩) (by show gL_12 < _; omega)).trans kb6_1_13'
  have kb6_2_14 := (hp14.cell (p := ⟨gL_12, 2, none⟩) (by show gL_12 < _; omega)).trans kb6_2_13'
  have kb6_3_14 := (hp14.cell (p := ⟨gL_12, 3, none⟩) (by show gL_12 < _; omega)).trans kb6_3_13'
  have kb6_4_14 := (hp14.cell (p := ⟨gL_12, 4, none⟩) (by show gL_12 < _; omega)).trans kb6_4_13'
  have kb6_5_14 := (hp14.cell (p := ⟨gL_12, 5, none⟩) (by show gL_12 < _; omega)).trans kb6_5_13'
  have kb6_6_14 := (hp14.cell (p := ⟨gL_12, 6, none⟩) (by show gL_12 < _; omega)).trans kb6_6_13'
  have kb6_7_14 := (hp14.cell (p := ⟨gL_12, 7, none⟩) (by show gL_12 < _; omega)).trans kb6_7_13'
  have hB14 := hB13'.trans (hp14.mono hB13'.size)
  have hz14 : w13.heap.size ≤ W14.heap.size := hp14.size
  have hl_b1_14 : w.heap.size < W14.heap.size := by omega
  have hl_b2_14 : w.heap.size + 1 < W14.heap.size := by omega
  have hl_b3_14 : gL_2 < W14.heap.size := by omega
  have hl_b4_14 : w3.heap.size < W14.heap.size := by omega
  have hl_b5_14 : gL_4 < W14.heap.size := by omega
  have hl_b6_14 : gL_12 < W14.heap.size := by omega
  have HW14 := Lib.hid hW14; clear hW14
  clear ow0_2_0_13' ow0_2_1_13' ot3_0_13' ot3_1_13' og0_4_0_13' og0_4_1_13' oh0_12_0_13' oh0_12_1_13' kb1_0_13' kb1_1_13' kb1_2_13' kb1_3_13' kb1_4_13' kb1_5_13' kb1_6_13' kb1_7_13' kb2_0_13' kb2_1_13' kb2_2_13' kb3_0_13' kb3_1_13' kb3_2_13' kb3_3_13' kb3_4_13' kb3_5_13' kb3_6_13' kb3_7_13' kb4_0_13' kb4_1_13' kb4_2_13' kb4_3_13' kb4_4_13' kb4_5_13' kb4_6_13' kb4_7_13' kb5_0_13' kb5_1_13' kb5_2_13' kb5_3_13' kb5_4_13' kb5_5_13' kb5_6_13' kb5_7_13' kb6_0_13' kb6_1_13' kb6_2_13' kb6_3_13' kb6_4_13' kb6_5_13' kb6_6_13' kb6_7_13'
  refine (heldVillage_2 Ar0_4 cr0_4 Rr0_4 dr0_4 _ _ ((doAct v0 x1 y1 z1).1) (1) _ (by omega) _ og0_4_0_14 og0_4_1_14 (by first | omega | (simp; omega))).mono ?_
  rintro e w14 ⟨rfl, hb14⟩
  try simp only [Vg.val]
  have ow0_2_0_14' := Row2.below ow0_2_0_14 hb14 (by omega)
  have ow0_2_1_14' := Row2.below ow0_2_1_14 hb14 (by omega)
  have ot3_0_14' := Row2.below ot3_0_14 hb14 (by omega)
  have ot3_1_14' := Row2.below ot3_1_14 hb14 (by omega)
  have og0_4_0_14' := Row2.below og0_4_0_14 hb14 (by omega)
  have og0_4_1_14' := Row2.below og0_4_1_14 hb14 (by omega)
  have oh0_12_0_14' := Row2.below oh0_12_0_14 hb14 (by omega)
  have oh0_12_1_14' := Row2.below oh0_12_1_14 hb14 (by omega)
  have kb1_0_14' := (hb14.cell (p := ⟨w.heap.size, 0, none⟩) (by show w.heap.size < _; omega)).trans kb1_0_14
  have kb1_1_14' := (hb14.cell (p := ⟨w.heap.size, 1, none⟩) (by show w.heap.size < _; omega)).trans kb1_1_14
  have kb1_2_14' := (hb14.cell (p := ⟨w.heap.size, 2, none⟩) (by show w.heap.size < _; omega)).trans kb1_2_14
  have kb1_3_14' := (hb14.cell (p := ⟨w.heap.size, 3, none⟩) (by show w.heap.size < _; omega)).trans kb1_3_14
  have kb1_4_14' := (hb14.cell (p := ⟨w.heap.size, 4, none⟩) (by show w.heap.size < _; omega)).trans kb1_4_14
  have kb1_5_14' := (hb14.cell (p := ⟨w.heap.size, 5, none⟩) (by show w.heap.size < _; omega)).trans kb1_5_14
  have kb1_6_14' := (hb14.cell (p := ⟨w.heap.size, 6, none⟩) (by show w.heap.size < _; omega)).trans kb1_6_14
  have kb1_7_14' := (hb14.cell (p := ⟨w.heap.size, 7, none⟩) (by show w.heap.size < _; omega)).trans kb1_7_14
  have kb2_0_14' := (hb14.cell (p := ⟨w.heap.size + 1, 0, none⟩) (by show w.heap.size + 1 < _; omega)).trans kb2_0_14
  have kb2_1_14' := (hb14.cell (p := ⟨w.heap.size + 1, 1, none⟩) (by show w.heap.size + 1 < _; omega)).trans kb2_1_14
  have kb2_2_14' := (hb14.cell (p := ⟨w.heap.size + 1, 2, none⟩) (by show w.heap.size + 1 < _; omega)).trans kb2_2_14
  have kb3_0_14' := (hb14.cell (p := ⟨gL_2, 0, none⟩) (by show gL_2 < _; omega)).trans kb3_0_14
  have kb3_1_14' := (hb14.cell (p := ⟨gL_2, 1, none⟩) (by show gL_2 < _; omega)).trans kb3_1_14
  have kb3_2_14' := (hb14.cell (p := ⟨gL_2, 2, none⟩) (by show gL_2 < _; omega)).trans kb3_2_14
  have kb3_3_14' := (hb14.cell (p := ⟨gL_2, 3, none⟩) (by show gL_2 < _; omega)).trans kb3_3_14
  have kb3_4_14' := (hb14.cell (p := ⟨gL_2, 4, none⟩) (by show gL_2 < _; omega)).trans kb3_4_14
  have kb3_5_14' := (hb14.cell (p := ⟨gL_2, 5, none⟩) (by show gL_2 < _; omega)).trans kb3_5_14
  have kb3_6_14' := (hb14.cell (p := ⟨gL_2, 6, none⟩) (by show gL_2 < _; omega)).trans kb3_6_14
  have kb3_7_14' := (hb14.cell (p := ⟨gL_2, 7, none⟩) (by show gL_2 < _; omega)).trans kb3_7_14
  have kb4_0_14' := (hb14.cell (p := ⟨w3.heap.size, 0, none⟩) (by show w3.heap.size < _; omega)).trans kb4_0_14
  have kb4_1_14' := (hb14.cell (p := ⟨w3.heap.size, 1, none⟩) (by show w3.heap.size < _; omega)).trans kb4_1_14
  have kb4_2_14' := (hb14.cell (p := ⟨w3.heap.size, 2, none⟩) (by show w3.heap.size < _; omega)).trans kb4_2_14
  have kb4_3_14' := (hb14.cell (p := ⟨w3.heap.size, 3, none⟩) (by show w3.heap.size < _; omega)).trans kb4_3_14
  have kb4_4_14' := (hb14.cell (p := ⟨w3.heap.size, 4, none⟩) (by show w3.heap.size < _; omega)).trans kb4_4_14
  have kb4_5_14' := (hb14.cell (p := ⟨w3.heap.size, 5, none⟩) (by show w3.heap.size < _; omega)).trans kb4_5_14
  have kb4_6_14' := (hb14.cell (p := ⟨w3.heap.size, 6, none⟩) (by show w3.heap.size < _; omega)).trans kb4_6_14
  have kb4_7_14' := (hb14.cell (p := ⟨w3.heap.size, 7, none⟩) (by show w3.heap.size < _; omega)).trans kb4_7_14
  have kb5_0_14' := (hb14.cell (p := ⟨gL_4, 0, none⟩) (by show gL_4 < _; omega)).trans kb5_0_14
  have kb5_1_14' := (hb14.cell (p := ⟨gL_4, 1, none⟩) (by show gL_4 < _; omega)).trans kb5_1_14
  have kb5_2_14' := (hb14.cell (p := ⟨gL_4, 2, none⟩) (by show gL_4 < _; omega)).trans kb5_2_14
  have kb5_3_14' := (hb14.cell (p := ⟨gL_4, 3, none⟩) (by show gL_4 < _; omega)).trans kb5_3_14
  have kb5_4_14' := (hb14.cell (p := ⟨gL_4, 4, none⟩) (by show gL_4 < _; omega)).trans kb5_4_14
  have kb5_5_14' := (hb14.cell (p := ⟨gL_4, 5, none⟩) (by show gL_4 < _; omega)).trans kb5_5_14
  have kb5_6_14' := (hb14.cell (p := ⟨gL_4, 6, none⟩) (by show gL_4 < _; omega)).trans kb5_6_14
  have kb5_7_14' := (hb14.cell (p := ⟨gL_4, 7, none⟩) (by show gL_4 < _; omega)).trans kb5_7_14
  have kb6_0_14' := (hb14.cell (p := ⟨gL_12, 0, none⟩) (by show gL_12 < _; omega)).trans kb6_0_14
  have kb6_1_14' := (hb14.cell (p := ⟨gL_12, 1, none⟩) (by show gL_12 < _; omega)).trans kb6_1_14
  have kb6_2_14' := (hb14.cell (p := ⟨gL_12, 2, none⟩) (by show gL_12 < _; omega)).trans kb6_2_14
  have kb6_3_14' := (hb14.cell (p := ⟨gL_12, 3, none⟩) (by show gL_12 < _; omega)).trans kb6_3_14
  have kb6_4_14' := (hb14.cell (p := ⟨gL_12, 4, none⟩) (by show gL_12 < _; omega)).trans kb6_4_14
  have kb6_5_14' := (hb14.cell (p := ⟨gL_12, 5, none⟩) (by show gL_12 < _; omega)).trans kb6_5_14
  have kb6_6_14' := (hb14.cell (p := ⟨gL_12, 6, none⟩) (by show gL_12 < _; omega)).trans kb6_6_14
  have kb6_7_14' := (hb14.cell (p := ⟨gL_12, 7, none⟩) (by show gL_12 < _; omega)).trans kb6_7_14
  have hB14' := hB14.trans (hb14.mono hB14.size)
  have hz14' : W14.heap.size ≤ w14.heap.size := hb14.size
  have hl_b1_14' : w.heap.size < w14.heap.size := by omega
  have hl_b2_14' : w.heap.size + 1 < w14.heap.size := by omega
  have hl_b3_14' : gL_2 < w14.heap.size := by omega
  have hl_b4_14' : w3.heap.size < w14.heap.size := by omega
  have hl_b5_14' : gL_4 < w14.heap.size := by omega
  have hl_b6_14' : gL_12 < w14.heap.size := by omega
  clear ow0_2_0_14 ow0_2_1_14 ot3_0_14 ot3_1_14 og0_4_0_14 og0_4_1_14 oh0_12_0_14 oh0_12_1_14 kb1_0_14 kb1_1_14 kb1_2_14 kb1_3_14 kb1_4_14 kb1_5_14 kb1_6_14 kb1_7_14 kb2_0_14 kb2_1_14 kb2_2_14 kb3_0_14 kb3_1_14 kb3_2_14 kb3_3_14 kb3_4_14 kb3_5_14 kb3_6_14 kb3_7_14 kb4_0_14 kb4_1_14 kb4_2_14 kb4_3_14 kb4_4_14 kb4_5_14 kb4_6_14 kb4_7_14 kb5_0_14 kb5_1_14 kb5_2_14 kb5_3_14 kb5_4_14 kb5_5_14 kb5_6_14 kb5_7_14 kb6_0_14 kb6_1_14 kb6_2_14 kb6_3_14 kb6_4_14 kb6_5_14 kb6_6_14 kb6_7_14
  go_wp2_with fail
  go_ret
  exact ⟨rfl, by first | exact hB14' | (refine hB14'.trans (Below.mono (B := w14.heap.size) ?_ hB14'.size); repeat' (first | (with_reducible exact Below.refl _ _) | (with_reducible refine Below.alloc ?_ ?_ _) | (with_reducible refine Below.setCell ?_ ?_ _) | (with_reducible refine Below.drew ?_) | (simp; done) | (simp; omega)))⟩
set_option maxRecDepth 100000 in
theorem lifted_FnExactDoAct (os : Os) (started : os.Started) (H : Type) (enc : TypeId × Value → H) :
    ReturnsInHanded {} Tryz.checked os 3 .any (Rows.fnExactDoActSpec.pre6 enc Tryz.prog Tryz.f3 Rows.fnExactDoActRow.domain false) (Rows.fnExactDoActSpec.post enc Tryz.prog Tryz.f3 false true false false) := by
  refine returnsInHanded_of_change (C := Tryz.checked) own_knob started (by kernel_rfl) Tryz.func3
    (ChangeSpec.witness6 (enc := enc) (C := Tryz.checked) false ⟨#[], #[.agg #[.int .i64 0, .int .i64 0, .slice none 0 0, .int .i64 0, .int .i64 0, .int .i64 0, .int .i64 0, .slice none 0 0], .agg #[.int .i64 0, .int .i64 0, .int .i64 0]], []⟩ 8 (by kernel_rfl) (by kernel_rfl) (by kernel_rfl) (by kernel_rfl)) ?_
  intro W base args ds gs before hval0 hW hcnd _
  have hval : ∀ (j : Nat) t v, Tryz.f3.params[j]? = some t → args[j]? = some v → Value.okWide Tryz.prog W .any base t v := hval0
  have hW' := hW
  obtain ⟨p, q, hA0, hV, rfl, hfz, hnd⟩ := hW
  have hA : DataW.TrodAll enc Tryz.prog W 0 (fun _ => true) true Tryz.f3.params.toList args.toList ds p := hA0
  rw [Tryz.params3] at hA hval
  obtain ⟨v0, vs0, d0, ds0, p0, q0, hargs, rfl, rfl, h0, r0⟩ := trodAll_cons hA
  obtain ⟨v1, vs1, d1, ds1, p1, q1, rfl, rfl, rfl, h1, r1⟩ := trodAll_cons r0
  obtain ⟨rfl, rfl, rfl⟩ := trodAll_nil r1
  obtain rfl : args = #[v0, v1] := by cases args; simp_all
  obtain ⟨rfl, rfl⟩ := trodVars_none hV
  obtain ⟨A0, c0, B0, e0, x0, rfl, hr0, hq0⟩ := arg_village (hval 0 27 v0 rfl rfl) h0
  have lt0 : ∀ x ∈ p0, x.block < W.heap.size := by obtain ⟨m, hm⟩ := h0; exact DataW.trod_lt m _ _ _ hm
  obtain ⟨x1, y1, z1, rfl, hx1, hy1, hz1⟩ := arg_act (hval 1 29 v1 rfl rfl) h1
  have lt1 : ∀ x ∈ p1, x.block < W.heap.size := by obtain ⟨m, hm⟩ := h1; exact DataW.trod_lt m _ _ _ hm
  clear hA0 hval0
  refine (walk_FnExactDoAct W A0 c0 B0 e0 x0 hr0 hq0 x1 y1 z1 hx1 hy1 hz1).mono fun e W' ⟨he, bel⟩ => ?_
  subst he
  exact ⟨_, rfl, _, _, _, [], _, [], hW', trodAll_mk1 (shut_bool Tryz.underlying4 _), (trodAll_cons_mk (Below.trod laid_out (by kernel_rfl) (of_decide_eq_true (by kernel_rfl)) h0 bel lt0) (trodAll_cons_mk (Below.trod laid_out (by kernel_rfl) (of_decide_eq_true (by kernel_rfl)) h1 bel lt1) trodAll_mk0)), rfl, bel.frame _, fun h => by cases h⟩

theorem fnExactDoAct_holds : Rows.FnExactDoActSaid :=
  OpenClaim.holds_of_wide 3 Tryz.f3 rfl rfl rfl rfl rfl rfl rfl ⟨rfl, rfl, rfl, rfl, rfl⟩ rfl rfl rfl rfl rfl (by kernel_rfl) Tryz.func3 (by kernel_rfl)
    (of_decide_eq_true (by kernel_rfl)) (by unfold Func.isWrapper; rw [if_neg (by decide +kernel)]; exact ⟨rfl, rfl⟩)
    (fun os started H enc _ => lifted_FnExactDoAct os started H enc)
end Go.Proofs.YtljidaniidfdoaaGreat
