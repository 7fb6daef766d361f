/- The law FnExactMayDrink answers true for every village and every owner. No conditions. -/
import Derived.Test.YtfiffondfljkkaaVill2
import Derived.Test.YtfiffondfljkkaaMay
import Derived.Test.YtfiffondfljkkaaOpenVillage
import Derived.Deep.RegionHeld3
namespace Go.Proofs.Ytfiffondfljkkaa
open Go.ChangeShapes Go.WideShapes Go.ChangeAt Go.RowKit
set_option maxRecDepth 20000
set_option maxHeartbeats 1600000 in
theorem walk_FnExactMayDrink (w : World) (A0 : Option Addr) (c0 : Nat) (R0 : Option Addr) (d0 : Nat) (v0 : Vg) (h0_0 : RdT w w.heap.size A0 c0 v0.book.evs) (h0_1 : RdT w w.heap.size R0 d0 v0.rights) (a1 : Int) (h1_0 : I64 a1) :
    Calls Try.prog 11 #[(Vg.val v0 A0 c0 R0 d0), .int .i64 a1] w fun e w' => e = .returned (.bool true) ∧ Below w.heap.size w w' := by
  by_cases hbig0 : (1048576 : Int) < (v0.book.evs.length + v0.rights.length)
  · unfold Vg.val
    go_enter Try.func11, Try.ntmps11
    go_wp2_with fail
    refine (szVillage_big A0 c0 R0 d0 v0 _ _ (by omega) (by omega) (by omega) (by have := h0_0.le; omega) (by have := h0_1.le; omega)).mono ?_
    rintro e w0' ⟨rfl, hb0'⟩
    go_wp2_with fail
    go_ret
    exact ⟨rfl, by repeat' (first | (with_reducible exact Below.refl _ _) | (with_reducible assumption) | (with_reducible refine Below.alloc ?_ ?_ _) | (with_reducible refine Below.setCell ?_ ?_ _) | (with_reducible refine Below.drew ?_) | (with_reducible refine below_drewN ?_ _) | (refine Below.trans ?_ (Below.mono (by with_reducible assumption) ?_)) | omega | (simp; done) | (simp; omega))⟩
  have hs0 : (v0.book.evs.length + v0.rights.length) ≤ 1048576 := by omega
  obtain ⟨r0, hr_0⟩ : ∃ r, r = mayDrink v0 a1 := ⟨_, rfl⟩
  have HR0 := Lib.hid hr_0; clear hr_0
  have hq0 : (r0 != r0) = false := by simp
  have hB0 : Below w.heap.size w w := Below.refl _ _
  unfold Vg.val
  go_enter Try.func11, Try.ntmps11
  go_wp2_with fail
  first | refine name_world ?_ | refine name_wp ?_
  intro W1 hW1
  have hp1 : Below w.heap.size w W1 := by rw [hW1]; repeat' (first | (with_reducible exact Below.refl _ _) | (with_reducible refine Below.alloc ?_ ?_ _) | (with_reducible refine Below.setCell ?_ ?_ _) | (with_reducible refine Below.drew ?_) | (simp; done) | (simp; omega))
  have kb1_0_1 : W1.cell? ⟨w.heap.size, 0, none⟩ = some (.int .i64 v0.book.room) := by rw [hW1]; simp [go_sem]
  have kb1_1_1 : W1.cell? ⟨w.heap.size, 1, none⟩ = some (.int .i64 v0.book.start) := by rw [hW1]; simp [go_sem]
  have kb1_2_1 : W1.cell? ⟨w.heap.size, 2, none⟩ = some (.slice A0 v0.book.evs.length c0) := by rw [hW1]; simp [go_sem]
  have kb1_3_1 : W1.cell? ⟨w.heap.size, 3, none⟩ = some (.int .i64 v0.book.level) := by rw [hW1]; simp [go_sem]
  have kb1_4_1 : W1.cell? ⟨w.heap.size, 4, none⟩ = some (.int .i64 v0.book.rained) := by rw [hW1]; simp [go_sem]
  have kb1_5_1 : W1.cell? ⟨w.heap.size, 5, none⟩ = some (.int .i64 v0.book.drunk) := by rw [hW1]; simp [go_sem]
  have kb1_6_1 : W1.cell? ⟨w.heap.size, 6, none⟩ = some (.int .i64 v0.book.lost) := by rw [hW1]; simp [go_sem]
  have kb1_7_1 : W1.cell? ⟨w.heap.size, 7, none⟩ = some (.slice R0 v0.rights.length d0) := by rw [hW1]; simp [go_sem]
  have hl_b1 : w.heap.size < W1.heap.size := by rw [hW1]; first | (simp; done) | (simp; omega)
  have hB1 := hB0.trans (hp1.mono hB0.size)
  have hz1 : w.heap.size ≤ W1.heap.size := hp1.size
  have HW1 := Lib.hid hW1; clear hW1
  refine (szVillage_ok A0 c0 R0 d0 v0 _ _ (by omega) (by omega)).mono ?_
  rintro e w1 ⟨rfl, hb1⟩
  try simp only [Vg.val]
  have kb1_0_1' := (hb1.cell (p := ⟨w.heap.size, 0, none⟩) (by show w.heap.size < _; omega)).trans kb1_0_1
  clear kb1_0_1
  have kb1_1_1' := (hb1.cell (p := ⟨w.heap.size, 1, none⟩) (by show w.heap.size < _; omega)).trans kb1_1_1
  clear kb1_1_1
  have kb1_2_1' := (hb1.cell (p := ⟨w.heap.size, 2, none⟩) (by show w.heap.size < _; omega)).trans kb1_2_1
  clear kb1_2_1
  have kb1_3_1' := (hb1.cell (p := ⟨w.heap.size, 3, none⟩) (by show w.heap.size < _; omega)).trans kb1_3_1
  clear kb1_3_1
  have kb1_4_1' := (hb1.cell (p := ⟨w.heap.size, 4, none⟩) (by show w.heap.size < _; omega)).trans kb1_4_1
  clear kb1_4_1
  have kb1_5_1' := (hb1.cell (p := ⟨w.heap.size, 5, none⟩) (by show w.heap.size < _; omega)).trans kb1_5_1
  clear kb1_5_1
  have kb1_6_1' := (hb1.cell (p := ⟨w.heap.size, 6, none⟩) (by show w.heap.size < _; omega)).trans kb1_6_1
  clear kb1_6_1
  have kb1_7_1' := (hb1.cell (p := ⟨w.heap.size, 7, none⟩) (by show w.heap.size < _; omega)).trans kb1_7_1
  clear kb1_7_1
  have hB1' := hB1.trans (hb1.mono hB1.size)
  have hz1' : W1.heap.size ≤ w1.heap.size := hb1.size
  have hl_b1_1' : w.heap.size < w1.heap.size := by omega
  go_wp2_with fail
  first | refine name_world ?_ | refine name_wp ?_
  intro W2 hW2
  have hp2 : Below w1.heap.size w1 W2 := by rw [hW2]; repeat' (first | (with_reducible exact Below.refl _ _) | (with_reducible refine Below.alloc ?_ ?_ _) | (with_reducible refine Below.setCell ?_ ?_ _) | (with_reducible refine Below.drew ?_) | (simp; done) | (simp; omega))
  have kb1_0_2 := (hp2.cell (p := ⟨w.heap.size, 0, none⟩) (by show w.heap.size < _; omega)).trans kb1_0_1'
  clear kb1_0_1'
  have kb1_1_2 := (hp2.cell (p := ⟨w.heap.size, 1, none⟩) (by show w.heap.size < _; omega)).trans kb1_1_1'
  clear kb1_1_1'
  have kb1_2_2 := (hp2.cell (p := ⟨w.heap.size, 2, none⟩) (by show w.heap.size < _; omega)).trans kb1_2_1'
  clear kb1_2_1'
  have kb1_3_2 := (hp2.cell (p := ⟨w.heap.size, 3, none⟩) (by show w.heap.size < _; omega)).trans kb1_3_1'
  clear kb1_3_1'
  have kb1_4_2 := (hp2.cell (p := ⟨w.heap.size, 4, none⟩) (by show w.heap.size < _; omega)).trans kb1_4_1'
  clear kb1_4_1'
  have kb1_5_2 := (hp2.cell (p := ⟨w.heap.size, 5, none⟩) (by show w.heap.size < _; omega)).trans kb1_5_1'
  clear kb1_5_1'
  have kb1_6_2 := (hp2.cell (p := ⟨w.heap.size, 6, none⟩) (by show w.heap.size < _; omega)).trans kb1_6_1'
  clear kb1_6_1'
  have kb1_7_2 := (hp2.cell (p := ⟨w.heap.size, 7, none⟩) (by show w.heap.size < _; omega)).trans kb1_7_1'
  clear kb1_7_1'
  have hB2 := hB1'.trans (hp2.mono hB1'.size)
  have hz2 : w1.heap.size ≤ W2.heap.size := hp2.size
  have hl_b1_2 : w.heap.size < W2.heap.size := by omega
  have HW2 := Lib.hid hW2; clear hW2
  refine (toVillage_any A0 c0 R0 d0 v0 _ (Rd.later h0_0 hB2) (Rd.later h0_1 hB2) hs0).mono ?_
  rintro e w2 ⟨A'2, c'2, R'2, d'2, rfl, ho0_2, ho1_2, hb2⟩
  try simp only [Vg.val]
  have kb1_0_2' := (hb2.cell (p := ⟨w.heap.size, 0, none⟩) (by show w.heap.size < _; omega)).trans kb1_0_2
  clear kb1_0_2
  have kb1_1_2' := (hb2.cell (p := ⟨w.heap.size, 1, none⟩) (by show w.heap.size < _; omega)).trans kb1_1_2
  clear kb1_1_2
  have kb1_2_2' := (hb2.cell (p := ⟨w.heap.size, 2, none⟩) (by show w.heap.size < _; omega)).trans kb1_2_2
  clear kb1_2_2
  have kb1_3_2' := (hb2.cell (p := ⟨w.heap.size, 3, none⟩) (by show w.heap.size < _; omega)).trans kb1_3_2
  clear kb1_3_2
  have kb1_4_2' := (hb2.cell (p := ⟨w.heap.size, 4, none⟩) (by show w.heap.size < _; omega)).trans kb1_4_2
  clear kb1_4_2
  have kb1_5_2' := (hb2.cell (p := ⟨w.heap.size, 5, none⟩) (by show w.heap.size < _; omega)).trans kb1_5_2
  clear kb1_5_2
  have kb1_6_2' := (hb2.cell (p := ⟨w.heap.size, 6, none⟩) (by show w.heap.size < _; omega)).trans kb1_6_2
  clear kb1_6_2
  have kb1_7_2' := (hb2.cell (p := ⟨w.heap.size, 7, none⟩) (by show w.heap.size < _; omega)).trans kb1_7_2
  clear kb1_7_2
  have hB2' := hB2.trans (hb2.mono hB2.size)
  have hz2' : W2.heap.size ≤ w2.heap.size := hb2.size
  have hl_b1_2' : w.heap.size < w2.heap.size := by omega
  have ot2_0_n := Row2.born ho0_2
  clear ho0_2
  have ot2_1_n := Row2.born ho1_2
  clear ho1_2
  go_wp2_with fail
  first | refine name_world ?_ | refine name_wp ?_
  intro W3 hW3
  have hp3 : Below w2.heap.size w2 W3 := by rw [hW3]; repeat' (first | (with_reducible exact Below.refl _ _) | (with_reducible refine Below.alloc ?_ ?_ _) | (with_reducible refine Below.setCell ?_ ?_ _) | (with_reducible refine Below.drew ?_) | (simp; done) | (simp; omega))
  have ot2_0_3 := Row2.below ot2_0_n hp3 (by omega)
  clear ot2_0_n
  have ot2_1_3 := Row2.below ot2_1_n hp3 (by omega)
  clear ot2_1_n
  have kb1_0_3 := (hp3.cell (p := ⟨w.heap.size, 0, none⟩) (by show w.heap.size < _; omega)).trans kb1_0_2'
  clear kb1_0_2'
  have kb1_1_3 := (hp3.cell (p := ⟨w.heap.size, 1, none⟩) (by show w.heap.size < _; omega)).trans kb1_1_2'
  clear kb1_1_2'
  have kb1_2_3 := (hp3.cell (p := ⟨w.heap.size, 2, none⟩) (by show w.heap.size < _; omega)).trans kb1_2_2'
  clear kb1_2_2'
  have kb1_3_3 := (hp3.cell (p := ⟨w.heap.size, 3, none⟩) (by show w.heap.size < _; omega)).trans kb1_3_2'
  clear kb1_3_2'
  have kb1_4_3 := (hp3.cell (p := ⟨w.heap.size, 4, none⟩) (by show w.heap.size < _; omega)).trans kb1_4_2'
  clear kb1_4_2'
  have kb1_5_3 := (hp3.cell (p := ⟨w.heap.size, 5, none⟩) (by show w.heap.size < _; omega)).trans kb1_5_2'
  clear kb1_5_2'
  have kb1_6_3 := (hp3.cell (p := ⟨w.heap.size, 6, none⟩) (by show w.heap.size < _; omega)).trans kb1_6_2'
  clear kb1_6_2'
  have kb1_7_3 := (hp3.cell (p := ⟨w.heap.size, 7, none⟩) (by show w.heap.size < _; omega)).trans kb1_7_2'
  clear kb1_7_2'
  have hB3 := hB2'.trans (hp3.mono hB2'.size)
  have hz3 : w2.heap.size ≤ W3.heap.size := hp3.size
  have hl_b1_3 : w.heap.size < W3.heap.size := by omega
  have HW3 := Lib.hid hW3; clear hW3
  refine (post_b (MayDrinkS_any A'2 c'2 R'2 d'2 v0 a1 _ ot2_0_3.rd ot2_1_3.rd (by omega))).mono ?_
  rintro e w3 ⟨rfl, hb3⟩
  try simp only [Vg.val]
  have ot2_0_3' := Row2.below ot2_0_3 hb3 (by omega)
  clear ot2_0_3
  have ot2_1_3' := Row2.below ot2_1_3 hb3 (by omega)
  clear ot2_1_3
  have kb1_0_3' := (hb3.cell (p := ⟨w.heap.size, 0, none⟩) (by show w.heap.size < _; omega)).trans kb1_0_3
  clear kb1_0_3
  have kb1_1_3' := (hb3.cell (p := ⟨w.heap.size, 1, none⟩) (by show w.heap.size < _; omega)).trans kb1_1_3
  clear kb1_1_3
  have kb1_2_3' := (hb3.cell (p := ⟨w.heap.size, 2, none⟩) (by show w.heap.size < _; omega)).trans kb1_2_3
  clear kb1_2_3
  have kb1_3_3' := (hb3.cell (p := ⟨w.heap.size, 3, none⟩) (by show w.heap.size < _; omega)).trans kb1_3_3
  clear kb1_3_3
  have kb1_4_3' := (hb3.cell (p := ⟨w.heap.size, 4, none⟩) (by show w.heap.size < _; omega)).trans kb1_4_3
  clear kb1_4_3
  have kb1_5_3' := (hb3.cell (p := ⟨w.heap.size, 5, none⟩) (by show w.heap.size < _; omega)).trans kb1_5_3
  clear kb1_5_3
  have kb1_6_3' := (hb3.cell (p := ⟨w.heap.size, 6, none⟩) (by show w.heap.size < _; omega)).trans kb1_6_3
  clear kb1_6_3
  have kb1_7_3' := (hb3.cell (p := ⟨w.heap.size, 7, none⟩) (by show w.heap.size < _; omega)).trans kb1_7_3
  clear kb1_7_3
  have hB3' := hB3.trans (hb3.mono hB3.size)
  have hz3' : W3.heap.size ≤ w3.heap.size := hb3.size
  have hl_b1_3' : w.heap.size < w3.heap.size := by omega
  rw [← HR0.out]
  go_wp2_with fail
  first | refine name_world ?_ | refine name_wp ?_
  intro W4 hW4
  have hp4 : Below w3.heap.size w3 W4 := by rw [hW4]; repeat' (first | (with_reducible exact Below.refl _ _) | (with_reducible refine Below.alloc ?_ ?_ _) | (with_reducible refine Below.setCell ?_ ?_ _) | (with_reducible refine Below.drew ?_) | (simp; done) | (simp; omega))
  have kb1_0_4 := (hp4.cell (p := ⟨w.heap.size, 0, none⟩) (by show w.heap.size < _; omega)).trans kb1_0_3'
  clear kb1_0_3'
  have kb1_1_4 := (hp4.cell (p := ⟨w.heap.size, 1, none⟩) (by show w.heap.size < _; omega)).trans kb1_1_3'
  clear kb1_1_3'
  have kb1_2_4 := (hp4.cell (p := ⟨w.heap.size, 2, none⟩) (by show w.heap.size < _; omega)).trans kb1_2_3'
  clear kb1_2_3'
  have kb1_3_4 := (hp4.cell (p := ⟨w.heap.size, 3, none⟩) (by show w.heap.size < _; omega)).trans kb1_3_3'
  clear kb1_3_3'
  have kb1_4_4 := (hp4.cell (p := ⟨w.heap.size, 4, none⟩) (by show w.heap.size < _; omega)).trans kb1_4_3'
  clear kb1_4_3'
  have kb1_5_4 := (hp4.cell (p := ⟨w.heap.size, 5, none⟩) (by show w.heap.size < _; omega)).trans kb1_5_3'
  clear kb1_5_3'
  have kb1_6_4 := (hp4.cell (p := ⟨w.heap.size, 6, none⟩) (by show w.heap.size < _; omega)).trans kb1_6_3'
  clear kb1_6_3'
  have kb1_7_4 := (hp4.cell (p := ⟨w.heap.size, 7, none⟩) (by show w.heap.size < _; omega)).trans kb1_7_3'
  clear kb1_7_3'
  have hB4 := hB3'.trans (hp4.mono hB3'.size)
  have hz4 : w3.heap.size ≤ W4.heap.size := hp4.size
  have hl_b1_4 : w.heap.size < W4.heap.size := by omega
  have HW4 := Lib.hid hW4; clear hW4
  refine (toVillage_any A0 c0 R0 d0 v0 _ (Rd.later h0_0 hB4) (Rd.later h0_1 hB4) hs0).mono ?_
  rintro e w4 ⟨A'4, c'4, R'4, d'4, rfl, ho0_4, ho1_4, hb4⟩
  try simp only [Vg.val]
  have kb1_0_4' := (hb4.cell (p := ⟨w.heap.size, 0, none⟩) (by show w.heap.size < _; omega)).trans kb1_0_4
  clear kb1_0_4
  have kb1_1_4' := (hb4.cell (p := ⟨w.heap.size, 1, none⟩) (by show w.heap.size < _; omega)).trans kb1_1_4
  clear kb1_1_4
  have kb1_2_4' := (hb4.cell (p := ⟨w.heap.size, 2, none⟩) (by show w.heap.size < _; omega)).trans kb1_2_4
  clear kb1_2_4
  have kb1_3_4' := (hb4.cell (p := ⟨w.heap.size, 3, none⟩) (by show w.heap.size < _; omega)).trans kb1_3_4
  clear kb1_3_4
  have kb1_4_4' := (hb4.cell (p := ⟨w.heap.size, 4, none⟩) (by show w.heap.size < _; omega)).trans kb1_4_4
  clear kb1_4_4
  have kb1_5_4' := (hb4.cell (p := ⟨w.heap.size, 5, none⟩) (by show w.heap.size < _; omega)).trans kb1_5_4
  clear kb1_5_4
  have kb1_6_4' := (hb4.cell (p := ⟨w.heap.size, 6, none⟩) (by show w.heap.size < _; omega)).trans kb1_6_4
  clear kb1_6_4
  have kb1_7_4' := (hb4.cell (p := ⟨w.heap.size, 7, none⟩) (by show w.heap.size < _; omega)).trans kb1_7_4
  clear kb1_7_4
  have hB4' := hB4.trans (hb4.mono hB4.size)
  have hz4' : W4.heap.size ≤ w4.heap.size := hb4.size
  have hl_b1_4' : w.heap.size < w4.heap.size := by omega
  have ot4_0_n := Row2.born ho0_4
  clear ho0_4
  have ot4_1_n := Row2.born ho1_4
  clear ho1_4
  go_wp2_with fail
  first | refine name_world ?_ | refine name_wp ?_
  intro W5 hW5
  have hp5 : Below w4.heap.size w4 W5 := by rw [hW5]; repeat' (first | (with_reducible exact Below.refl _ _) | (with_reducible refine Below.alloc ?_ ?_ _) | (with_reducible refine Below.setCell ?_ ?_ _) | (with_reducible refine Below.drew ?_) | (simp; done) | (simp; omega))
  have kb2_0_5 : W5.cell? ⟨w4.heap.size, 0, none⟩ = some (.int .i64 v0.book.room) := by rw [hW5]; simp [go_sem]
  have kb2_1_5 : W5.cell? ⟨w4.heap.size, 1, none⟩ = some (.int .i64 v0.book.start) := by rw [hW5]; simp [go_sem]
  have kb2_2_5 : W5.cell? ⟨w4.heap.size, 2, none⟩ = some (.slice A'4 v0.book.evs.length c'4) := by rw [hW5]; simp [go_sem]
  have kb2_3_5 : W5.cell? ⟨w4.heap.size, 3, none⟩ = some (.int .i64 v0.book.level) := by rw [hW5]; simp [go_sem]
  have kb2_4_5 : W5.cell? ⟨w4.heap.size, 4, none⟩ = some (.int .i64 v0.book.rained) := by rw [hW5]; simp [go_sem]
  have kb2_5_5 : W5.cell? ⟨w4.heap.size, 5, none⟩ = some (.int .i64 v0.book.drunk) := by rw [hW5]; simp [go_sem]
  have kb2_6_5 : W5.cell? ⟨w4.heap.size, 6, none⟩ = some (.int .i64 v0.book.lost) := by rw [hW5]; simp [go_sem]
  have kb2_7_5 : W5.cell? ⟨w4.heap.size, 7, none⟩ = some (.slice R'4 v0.rights.length d'4) := by rw [hW5]; simp [go_sem]
  have hl_b2 : w4.heap.size < W5.heap.size := by rw [hW5]; first | (simp; done) | (simp; omega)
  have ot4_0_5 := Row2.below ot4_0_n hp5 (by omega)
  clear ot4_0_n
  have ot4_1_5 := Row2.below ot4_1_n hp5 (by omega)
  clear ot4_1_n
  have kb1_0_5 := (hp5.cell (p := ⟨w.heap.size, 0, none⟩) (by show w.heap.size < _; omega)).trans kb1_0_4'
  clear kb1_0_4'
  have kb1_1_5 := (hp5.cell (p := ⟨w.heap.size, 1, none⟩) (by show w.heap.size < _; omega)).trans kb1_1_4'
  clear kb1_1_4'
  have kb1_2_5 := (hp5.cell (p := ⟨w.heap.size, 2, none⟩) (by show w.heap.size < _; omega)).trans kb1_2_4'
  clear kb1_2_4'
  have kb1_3_5 := (hp5.cell (p := ⟨w.heap.size, 3, none⟩) (by show w.heap.size < _; omega)).trans kb1_3_4'
  clear kb1_3_4'
  have kb1_4_5 := (hp5.cell (p := ⟨w.heap.size, 4, none⟩) (by show w.heap.size < _; omega)).trans kb1_4_4'
  clear kb1_4_4'
  have kb1_5_5 := (hp5.cell (p := ⟨w.heap.size, 5, none⟩) (by show w.heap.size < _; omega)).trans kb1_5_4'
  clear kb1_5_4'
  have kb1_6_5 := (hp5.cell (p := ⟨w.heap.size, 6, none⟩) (by show w.heap.size < _; omega)).trans kb1_6_4'
  clear kb1_6_4'
  have kb1_7_5 := (hp5.cell (p := ⟨w.heap.size, 7, none⟩) (by show w.heap.size < _; omega)).trans kb1_7_4'
  clear kb1_7_4'
  have hB5 := hB4'.trans (hp5.mono hB4'.size)
  have hz5 : w4.heap.size ≤ W5.heap.size := hp5.size
  have hl_b1_5 : w.heap.size < W5.heap.size := by omega
  have HW5 := Lib.hid hW5; clear hW5
  refine (post_b (MayDrink_any A'4 c'4 R'4 d'4 v0 a1 _ ot4_0_5.rd ot4_1_5.rd (by omega))).mono ?_
  rintro e w5 ⟨rfl, hb5⟩
  try simp only [Vg.val]
  have ot4_0_5' := Row2.below ot4_0_5 hb5 (by omega)
  clear ot4_0_5
  have ot4_1_5' := Row2.below ot4_1_5 hb5 (by omega)
  clear ot4_1_5
  have kb1_0_5' := (hb5.cell (p := ⟨w.heap.size, 0, none⟩) (by show w.heap.size < _; omega)).trans kb1_0_5
  clear kb1_0_5
  have kb1_1_5' := (hb5.cell (p := ⟨w.heap.size, 1, none⟩) (by show w.heap.size < _; omega)).trans kb1_1_5
  clear kb1_1_5
  have kb1_2_5' := (hb5.cell (p := ⟨w.heap.size, 2, none⟩) (by show w.heap.size < _; omega)).trans kb1_2_5
  clear kb1_2_5
  have kb1_3_5' := (hb5.cell (p := ⟨w.heap.size, 3, none⟩) (by show w.heap.size < _; omega)).trans kb1_3_5
  clear kb1_3_5
  have kb1_4_5' := (hb5.cell (p := ⟨w.heap.size, 4, none⟩) (by show w.heap.size < _; omega)).trans kb1_4_5
  clear kb1_4_5
  have kb1_5_5' := (hb5.cell (p := ⟨w.heap.size, 5, none⟩) (by show w.heap.size < _; omega)).trans kb1_5_5
  clear kb1_5_5
  have kb1_6_5' := (hb5.cell (p := ⟨w.heap.size, 6, none⟩) (by show w.heap.size < _; omega)).trans kb1_6_5
  clear kb1_6_5
  have kb1_7_5' := (hb5.cell (p := ⟨w.heap.size, 7, none⟩) (by show w.heap.size < _; omega)).trans kb1_7_5
  clear kb1_7_5
  have kb2_0_5' := (hb5.cell (p := ⟨w4.heap.size, 0, none⟩) (by show w4.heap.size < _; omega)).trans kb2_0_5
  clear kb2_0_5
  have kb2_1_5' := (hb5.cell (p := ⟨w4.heap.size, 1, none⟩) (by show w4.heap.size < _; omega)).trans kb2_1_5
  clear kb2_1_5
  have kb2_2_5' := (hb5.cell (p := ⟨w4.heap.size, 2, none⟩) (by show w4.heap.size < _; omega)).trans kb2_2_5
  clear kb2_2_5
  have kb2_3_5' := (hb5.cell (p := ⟨w4.heap.size, 3, none⟩) (by show w4.heap.size < _; omega)).trans kb2_3_5
  clear kb2_3_5
  have kb2_4_5' := (hb5.cell (p := ⟨w4.heap.size, 4, none⟩) (by show w4.heap.size < _; omega)).trans kb2_4_5
  clear kb2_4_5
  have kb2_5_5' := (hb5.cell (p := ⟨w4.heap.size, 5, none⟩) (by show w4.heap.size < _; omega)).trans kb2_5_5
  clear kb2_5_5
  have kb2_6_5' := (hb5.cell (p := ⟨w4.heap.size, 6, none⟩) (by show w4.heap.size < _; omega)).trans kb2_6_5
  clear kb2_6_5
  have kb2_7_5' := (hb5.cell (p := ⟨w4.heap.size, 7, none⟩) (by show w4.heap.size < _; omega)).trans kb2_7_5
  clear kb2_7_5
  have hB5' := hB5.trans (hb5.mono hB5.size)
  have hz5' : W5.heap.size ≤ w5.heap.size := hb5.size
  have hl_b1_5' : w.heap.size < w5.heap.size := by omega
  have hl_b2_5' : w4.heap.size < w5.heap.size := by omega
  rw [← HR0.out]
  go_wp2_with fail
  go_region_held3 (fun w' => w'.cell? ⟨w4.heap.size, 0, none⟩ = some (.int .i64 v0.book.room) ∧ w'.cell? ⟨w4.heap.size, 1, none⟩ = some (.int .i64 v0.book.start) ∧ w'.cell? ⟨w4.heap.size, 2, none⟩ = some (.slice A'4 v0.book.evs.length c'4) ∧ w'.cell? ⟨w4.heap.size, 3, none⟩ = some (.int .i64 v0.book.level) ∧ w'.cell? ⟨w4.heap.size, 4, none⟩ = some (.int .i64 v0.book.rained) ∧ w'.cell? ⟨w4.heap.size, 5, none⟩ = some (.int .i64 v0.book.drunk) ∧ w'.cell? ⟨w4.heap.size, 6, none⟩ = some (.int .i64 v0.book.lost) ∧ w'.cell? ⟨w4.heap.size, 7, none⟩ = some (.slice R'4 v0.rights.length d'4) ∧ w'.cell? ⟨w.heap.size, 0, none⟩ = some (.int .i64 v0.book.room) ∧ w'.cell? ⟨w.heap.size, 1, none⟩ = some (.int .i64 v0.book.start) ∧ w'.cell? ⟨w.heap.size, 2, none⟩ = some (.slice A0 v0.book.evs.length c0) ∧ w'.cell? ⟨w.heap.size, 3, none⟩ = some (.int .i64 v0.book.level) ∧ w'.cell? ⟨w.heap.size, 4, none⟩ = some (.int .i64 v0.book.rained) ∧ w'.cell? ⟨w.heap.size, 5, none⟩ = some (.int .i64 v0.book.drunk) ∧ w'.cell? ⟨w.heap.size, 6, none⟩ = some (.int .i64 v0.book.lost) ∧ w'.cell? ⟨w.heap.size, 7, none⟩ = some (.slice R0 v0.rights.length d0)) (first | (with_reducible exact ⟨sa0_6, sa1_6, sa2_6, sa3_6, sa4_6, sa5_6, sa6_6, sa7_6, sa8_6, sa9_6, sa10_6, sa11_6, sa12_6, sa13_6, sa14_6, sa15_6⟩) | (with_reducible exact ⟨sb0_7, sb1_7, sb2_7, sb3_7, sb4_7, sb5_7, sb6_7, sb7_7, sb8_7, sb9_7, sb10_7, sb11_7, sb12_7, sb13_7, sb14_7, sb15_7⟩) | exact ⟨kb2_0_5', kb2_1_5', kb2_2_5', kb2_3_5', kb2_4_5', kb2_5_5', kb2_6_5', kb2_7_5', kb1_0_5', kb1_1_5', kb1_2_5', kb1_3_5', kb1_4_5', kb1_5_5', kb1_6_5', kb1_7_5'⟩)
    (first | (go_at_call 40; refine (toVillage_any A0 c0 R0 d0 v0 _ (Rd.later h0_0 hB5'.drew) (Rd.later h0_1 hB5'.drew) hs0).mono ?_; rintro e w6 ⟨A'6, c'6, R'6, d'6, rfl, ho0_6, ho1_6, hb6⟩; try simp only [Vg.val]; have sa0_6 := (hb6.cell (p := ⟨w4.heap.size, 0, none⟩) (by show w4.heap.size < w5.heap.size; omega)).trans kb2_0_5'; have sa1_6 := (hb6.cell (p := ⟨w4.heap.size, 1, none⟩) (by show w4.heap.size < w5.heap.size; omega)).trans kb2_1_5'; have sa2_6 := (hb6.cell (p := ⟨w4.heap.size, 2, none⟩) (by show w4.heap.size < w5.heap.size; omega)).trans kb2_2_5'; have sa3_6 := (hb6.cell (p := ⟨w4.heap.size, 3, none⟩) (by show w4.heap.size < w5.heap.size; omega)).trans kb2_3_5'; have sa4_6 := (hb6.cell (p := ⟨w4.heap.size, 4, none⟩) (by show w4.heap.size < w5.heap.size; omega)).trans kb2_4_5'; have sa5_6 := (hb6.cell (p := ⟨w4.heap.size, 5, none⟩) (by show w4.heap.size < w5.heap.size; omega)).trans kb2_5_5'; have sa6_6 := (hb6.cell (p := ⟨w4.heap.size, 6, none⟩) (by show w4.heap.size < w5.heap.size; omega)).trans kb2_6_5'; have sa7_6 := (hb6.cell (p := ⟨w4.heap.size, 7, none⟩) (by show w4.heap.size < w5.heap.size; omega)).trans kb2_7_5'; have sa8_6 := (hb6.cell (p := ⟨w.heap.size, 0, none⟩) (by show w.heap.size < w5.heap.size; omega)).trans kb1_0_5'; have sa9_6 := (hb6.cell (p := ⟨w.heap.size, 1, none⟩) (by show w.heap.size < w5.heap.size; omega)).trans kb1_1_5'; have sa10_6 := (hb6.cell (p := ⟨w.heap.size, 2, none⟩) (by show w.heap.size < w5.heap.size; omega)).trans kb1_2_5'; have sa11_6 := (hb6.cell (p := ⟨w.heap.size, 3, none⟩) (by show w.heap.size < w5.heap.size; omega)).trans kb1_3_5'; have sa12_6 := (hb6.cell (p := ⟨w.heap.size, 4, none⟩) (by show w.heap.size < w5.heap.size; omega)).trans kb1_4_5'; have sa13_6 := (hb6.cell (p := ⟨w.heap.size, 5, none⟩) (by show w.heap.size < w5.heap.size; omega)).trans kb1_5_5'; have sa14_6 := (hb6.cell (p := ⟨w.heap.size, 6, none⟩) (by show w.heap.size < w5.heap.size; omega)).trans kb1_6_5'; have sa15_6 := (hb6.cell (p := ⟨w.heap.size, 7, none⟩) (by show w.heap.size < w5.heap.size; omega)).trans kb1_7_5') | (go_at_call 42; refine (eqVillage_same A'4 c'4 R'4 d'4 A'6 c'6 R'6 d'6 (v0) _ (Row2.below (Row2.drew ot4_0_5') hb6 (by show _ ≤ w5.heap.size; omega)).rd (Row2.below (Row2.drew ot4_1_5') hb6 (by show _ ≤ w5.heap.size; omega)).rd (Row2.born ho0_6).rd (Row2.born ho1_6).rd).mono ?_; rintro e w7 ⟨rfl, hb7⟩; have sb0_7 := (hb7.cell (p := ⟨w4.heap.size, 0, none⟩) (by show w4.heap.size < _; have := hb6.size; have : w5.heap.size ≤ w6.heap.size := this; omega)).trans sa0_6; have sb1_7 := (hb7.cell (p := ⟨w4.heap.size, 1, none⟩) (by show w4.heap.size < _; have := hb6.size; have : w5.heap.size ≤ w6.heap.size := this; omega)).trans sa1_6; have sb2_7 := (hb7.cell (p := ⟨w4.heap.size, 2, none⟩) (by show w4.heap.size < _; have := hb6.size; have : w5.heap.size ≤ w6.heap.size := this; omega)).trans sa2_6; have sb3_7 := (hb7.cell (p := ⟨w4.heap.size, 3, none⟩) (by show w4.heap.size < _; have := hb6.size; have : w5.heap.size ≤ w6.heap.size := this; omega)).trans sa3_6; have sb4_7 := (hb7.cell (p := ⟨w4.heap.size, 4, none⟩) (by show w4.heap.size < _; have := hb6.size; have : w5.heap.size ≤ w6.heap.size := this; omega)).trans sa4_6; have sb5_7 := (hb7.cell (p := ⟨w4.heap.size, 5, none⟩) (by show w4.heap.size < _; have := hb6.size; have : w5.heap.size ≤ w6.heap.size := this; omega)).trans sa5_6; have sb6_7 := (hb7.cell (p := ⟨w4.heap.size, 6, none⟩) (by show w4.heap.size < _; have := hb6.size; have : w5.heap.size ≤ w6.heap.size := this; omega)).trans sa6_6; have sb7_7 := (hb7.cell (p := ⟨w4.heap.size, 7, none⟩) (by show w4.heap.size < _; have := hb6.size; have : w5.heap.size ≤ w6.heap.size := this; omega)).trans sa7_6; have sb8_7 := (hb7.cell (p := ⟨w.heap.size, 0, none⟩) (by show w.heap.size < _; have := hb6.size; have : w5.heap.size ≤ w6.heap.size := this; omega)).trans sa8_6; have sb9_7 := (hb7.cell (p := ⟨w.heap.size, 1, none⟩) (by show w.heap.size < _; have := hb6.size; have : w5.heap.size ≤ w6.heap.size := this; omega)).trans sa9_6; have sb10_7 := (hb7.cell (p := ⟨w.heap.size, 2, none⟩) (by show w.heap.size < _; have := hb6.size; have : w5.heap.size ≤ w6.heap.size := this; omega)).trans sa10_6; have sb11_7 := (hb7.cell (p := ⟨w.heap.size, 3, none⟩) (by show w.heap.size < _; have := hb6.size; have : w5.heap.size ≤ w6.heap.size := this; omega)).trans sa11_6; have sb12_7 := (hb7.cell (p := ⟨w.heap.size, 4, none⟩) (by show w.heap.size < _; have := hb6.size; have : w5.heap.size ≤ w6.heap.size := this; omega)).trans sa12_6; have sb13_7 := (hb7.cell (p := ⟨w.heap.size, 5, none⟩) (by show w.heap.size < _; have := hb6.size; have : w5.heap.size ≤ w6.heap.size := this; omega)).trans sa13_6; have sb14_7 := (hb7.cell (p := ⟨w.heap.size, 6, none⟩) (by show w.heap.size < _; have := hb6.size; have : w5.heap.size ≤ w6.heap.size := this; omega)).trans sa14_6; have sb15_7 := (hb7.cell (p := ⟨w.heap.size, 7, none⟩) (by show w.heap.size < _; have := hb6.size; have : w5.heap.size ≤ w6.heap.size := this; omega)).trans sa15_6))
  clear sa0_6 sb0_7 sa1_6 sb1_7 sa2_6 sb2_7 sa3_6 sb3_7 sa4_6 sb4_7 sa5_6 sb5_7 sa6_6 sb6_7 sa7_6 sb7_7 sa8_6 sb8_7 sa9_6 sb9_7 sa10_6 sb10_7 sa11_6 sb11_7 sa12_6 sb12_7 sa13_6 sb13_7 sa14_6 sb14_7 sa15_6 sb15_7
  have hb6d := below_of_drew hb6
  have ot4_0_6' := Row2.below ot4_0_5' hb6d (by omega)
  clear ot4_0_5'
  have ot4_1_6' := Row2.below ot4_1_5' hb6d (by omega)
  clear ot4_1_5'
  have kb1_0_6' := (hb6d.cell (p := ⟨w.heap.size, 0, none⟩) (by show w.heap.size < _; omega)).trans kb1_0_5'
  clear kb1_0_5'
  have kb1_1_6' := (hb6d.cell (p := ⟨w.heap.size, 1, none⟩) (by show w.heap.size < _; omega)).trans kb1_1_5'
  clear kb1_1_5'
  have kb1_2_6' := (hb6d.cell (p := ⟨w.heap.size, 2, none⟩) (by show w.heap.size < _; omega)).trans kb1_2_5'
  clear kb1_2_5'
  have kb1_3_6' := (hb6d.cell (p := ⟨w.heap.size, 3, none⟩) (by show w.heap.size < _; omega)).trans kb1_3_5'
  clear kb1_3_5'
  have kb1_4_6' := (hb6d.cell (p := ⟨w.heap.size, 4, none⟩) (by show w.heap.size < _; omega)).trans kb1_4_5'
  clear kb1_4_5'
  have kb1_5_6' := (hb6d.cell (p := ⟨w.heap.size, 5, none⟩) (by show w.heap.size < _; omega)).trans kb1_5_5'
  clear kb1_5_5'
  have kb1_6_6' := (hb6d.cell (p := ⟨w.heap.size, 6, none⟩) (by show w.heap.size < _; omega)).trans kb1_6_5'
  clear kb1_6_5'
  have kb1_7_6' := (hb6d.cell (p := ⟨w.heap.size, 7, none⟩) (by show w.heap.size < _; omega)).trans kb1_7_5'
  clear kb1_7_5'
  have kb2_0_6' := (hb6d.cell (p := ⟨w4.heap.size, 0, none⟩) (by show w4.heap.size < _; omega)).trans kb2_0_5'
  clear kb2_0_5'
  have kb2_1_6' := (hb6d.cell (p := ⟨w4.heap.size, 1, none⟩) (by show w4.heap.size < _; omega)).trans kb2_1_5'
  clear kb2_1_5'
  have kb2_2_6' := (hb6d.cell (p := ⟨w4.heap.size, 2, none⟩) (by show w4.heap.size < _; omega)).trans kb2_2_5'
  clear kb2_2_5'
  have kb2_3_6' := (hb6d.cell (p := ⟨w4.heap.size, 3, none⟩) (by show w4.heap.size < _; omega)).trans kb2_3_5'
  clear kb2_3_5'
  have kb2_4_6' := (hb6d.cell (p := ⟨w4.heap.size, 4, none⟩) (by show w4.heap.size < _; omega)).trans kb2_4_5'
  clear kb2_4_5'
  have kb2_5_6' := (hb6d.cell (p := ⟨w4.heap.size, 5, none⟩) (by show w4.heap.size < _; omega)).trans kb2_5_5'
  clear kb2_5_5'
  have kb2_6_6' := (hb6d.cell (p := ⟨w4.heap.size, 6, none⟩) (by show w4.heap.size < _; omega)).trans kb2_6_5'
  clear kb2_6_5'
  have kb2_7_6' := (hb6d.cell (p := ⟨w4.heap.size, 7, none⟩) (by show w4.heap.size < _; omega)).trans kb2_7_5'
  clear kb2_7_5'
  have hB6' := hB5'.trans (hb6d.mono hB5'.size)
  have hz6' : w5.heap.size ≤ w6.heap.size := hb6d.size
  have hl_b1_6' : w.heap.size < w6.heap.size := by omega
  have hl_b2_6' : w4.heap.size < w6.heap.size := by omega
  have ot4_0_7' := Row2.below ot4_0_6' hb7 (by omega)
  clear ot4_0_6'
  have ot4_1_7' := Row2.below ot4_1_6' hb7 (by omega)
  clear ot4_1_6'
  have kb1_0_7' := (hb7.cell (p := ⟨w.heap.size, 0, none⟩) (by show w.heap.size < _; omega)).trans kb1_0_6'
  clear kb1_0_6'
  have kb1_1_7' := (hb7.cell (p := ⟨w.heap.size, 1, none⟩) (by show w.heap.size < _; omega)).trans kb1_1_6'
  clear kb1_1_6'
  have kb1_2_7' := (hb7.cell (p := ⟨w.heap.size, 2, none⟩) (by show w.heap.size < _; omega)).trans kb1_2_6'
  clear kb1_2_6'
  have kb1_3_7' := (hb7.cell (p := ⟨w.heap.size, 3, none⟩) (by show w.heap.size < _; omega)).trans kb1_3_6'
  clear kb1_3_6'
  have kb1_4_7' := (hb7.cell (p := ⟨w.heap.size, 4, none⟩) (by show w.heap.size < _; omega)).trans kb1_4_6'
  clear kb1_4_6'
  have kb1_5_7' := (hb7.cell (p := ⟨w.heap.size, 5, none⟩) (by show w.heap.size < _; omega)).trans kb1_5_6'
  clear kb1_5_6'
  have kb1_6_7' := (hb7.cell (p := ⟨w.heap.size, 6, none⟩) (by show w.heap.size < _; omega)).trans kb1_6_6'
  clear kb1_6_6'
  have kb1_7_7' := (hb7.cell (p := ⟨w.heap.size, 7, none⟩) (by show w.heap.size < _; omega)).trans kb1_7_6'
  clear kb1_7_6'
  have kb2_0_7' := (hb7.cell (p := ⟨w4.heap.size, 0, none⟩) (by show w4.heap.size < _; omega)).trans kb2_0_6'
  clear kb2_0_6'
  have kb2_1_7' := (hb7.cell (p := ⟨w4.heap.size, 1, none⟩) (by show w4.heap.size < _; omega)).trans kb2_1_6'
  clear kb2_1_6'
  have kb2_2_7' := (hb7.cell (p := ⟨w4.heap.size, 2, none⟩) (by show w4.heap.size < _; omega)).trans kb2_2_6'
  clear kb2_2_6'
  have kb2_3_7' := (hb7.cell (p := ⟨w4.heap.size, 3, none⟩) (by show w4.heap.size < _; omega)).trans kb2_3_6'
  clear kb2_3_6'
  have kb2_4_7' := (hb7.cell (p := ⟨w4.heap.size, 4, none⟩) (by show w4.heap.size < _; omega)).trans kb2_4_6'
  clear kb2_4_6'
  have kb2_5_7' := (hb7.cell (p := ⟨w4.heap.size, 5, none⟩) (by show w4.heap.size < _; omega)).trans kb2_5_6'
  clear kb2_5_6'
  have kb2_6_7' := (hb7.cell (p := ⟨w4.heap.size, 6, none⟩) (by show w4.heap.size < _; omega)).trans kb2_6_6'
  clear kb2_6_6'
  have kb2_7_7' := (hb7.cell (p := ⟨w4.heap.size, 7, none⟩) (by show w4.heap.size < _; omega)).trans kb2_7_6'
  clear kb2_7_6'
  have hB7' := hB6'.trans (hb7.mono hB6'.size)
  have hz7' : w6.heap.size ≤ w7.heap.size := hb7.size
  have hl_b1_7' : w.heap.size < w7.heap.size := by omega
  have hl_b2_7' : w4.heap.size < w7.heap.size := by omega
  clear ho0_6 ho1_6
  go_wp2_with fail
  go_ret
  exact ⟨rfl, by first | exact hB7' | (refine hB7'.trans (Below.mono (B := w7.heap.size) ?_ hB7'.size); repeat' (first | (with_reducible exact Below.refl _ _) | (with_reducible refine Below.alloc ?_ ?_ _) | (with_reducible refine Below.setCell ?_ ?_ _) | (with_reducible refine Below.drew ?_) | (simp; done) | (simp; omega)))⟩
set_option maxRecDepth 100000 in
theorem lifted_FnExactMayDrink (os : Os) (started : os.Started) (H : Type) (enc : TypeId × Value → H) :
    ReturnsInHanded {} Try.checked os 11 .any (Rows.fnExactMayDrinkSpec.pre6 enc Try.prog Try.f11 Rows.fnExactMayDrinkRow.domain false) (Rows.fnExactMayDrinkSpec.post enc Try.prog Try.f11 false true false false) := by
  refine returnsInHanded_of_change (C := Try.checked) own_knob started (by kernel_rfl) Try.func11
    (ChangeSpec.witness6 (enc := enc) (C := Try.checked) false ⟨#[], #[.agg #[.int .i64 0, .int .i64 0, .slice none 0 0, .int .i64 0, .int .i64 0, .int .i64 0, .int .i64 0, .slice none 0 0], .int .i64 0], []⟩ 8 (by kernel_rfl) (by kernel_rfl) (by kernel_rfl) (by kernel_rfl)) ?_
  intro W base args ds gs before hval0 hW hcnd _
  have hval : ∀ (j : Nat) t v, Try.f11.params[j]? = some t → args[j]? = some v → Value.okWide Try.prog W .any base t v := hval0
  have hW' := hW
  obtain ⟨p, q, hA0, hV, rfl, hfz, hnd⟩ := hW
  have hA : DataW.TrodAll enc Try.prog W 0 (fun _ => true) true Try.f11.params.toList args.toList ds p := hA0
  rw [Try.params11] at hA hval
  obtain ⟨v0, vs0, d0, ds0, p0, q0, hargs, rfl, rfl, h0, r0⟩ := trodAll_cons hA
  obtain ⟨v1, vs1, d1, ds1, p1, q1, rfl, rfl, rfl, h1, r1⟩ := trodAll_cons r0
  obtain ⟨rfl, rfl, rfl⟩ := trodAll_nil r1
  obtain rfl : args = #[v0, v1] := by cases args; simp_all
  obtain ⟨rfl, rfl⟩ := trodVars_none hV
  obtain ⟨A0, c0, B0, e0, x0, rfl, hr0, hq0⟩ := arg_village (hval 0 54 v0 rfl rfl) h0
  have lt0 : ∀ x ∈ p0, x.block < W.heap.size := by obtain ⟨m, hm⟩ := h0; exact DataW.trod_lt m _ _ _ hm
  obtain ⟨a1, rfl, hi1⟩ := arg_int (hval 1 3 v1 rfl rfl) h1
  have lt1 : ∀ x ∈ p1, x.block < W.heap.size := by obtain ⟨m, hm⟩ := h1; exact DataW.trod_lt m _ _ _ hm
  clear hA0 hval0
  refine (walk_FnExactMayDrink W A0 c0 B0 e0 x0 hr0 hq0 a1 hi1).mono fun e W' ⟨he, bel⟩ => ?_
  subst he
  exact ⟨_, rfl, _, _, _, [], _, [], hW', trodAll_mk1 (shut_bool Try.underlying4 _), (trodAll_cons_mk (Below.trod laid_out (by kernel_rfl) (of_decide_eq_true (by kernel_rfl)) h0 bel lt0) (trodAll_cons_mk (Below.trod laid_out (by kernel_rfl) (of_decide_eq_true (by kernel_rfl)) h1 bel lt1) trodAll_mk0)), rfl, bel.frame _, fun h => by cases h⟩

theorem fnExactMayDrink_holds : Rows.FnExactMayDrinkSaid :=
  OpenClaim.holds_of_wide 11 Try.f11 rfl rfl rfl rfl rfl rfl rfl ⟨rfl, rfl, rfl, rfl, rfl⟩ rfl rfl rfl rfl rfl (by kernel_rfl) Try.func11 (by kernel_rfl)
    (of_decide_eq_true (by kernel_rfl)) (by unfold Func.isWrapper; rw [if_neg (by decide +kernel)]; exact ⟨rfl, rfl⟩)
    (fun os started H enc _ => lifted_FnExactMayDrink os started H enc)
end Go.Proofs.Ytfiffondfljkkaa
