/- The law FnExactSampleVillage answers true. No conditions. -/
import Derived.Test.YtfiffondfljkkaaVill2
import Derived.Test.YtfiffondfljkkaaVillOpen
import Derived.Test.YtfiffondfljkkaaOpenVillage
import Derived.Deep.RegionHeld3
namespace Go.Proofs.Ytfiffondfljkkaa
open Go.ChangeShapes Go.WideShapes Go.ChangeAt Go.RowKit
set_option maxRecDepth 20000
set_option maxHeartbeats 1600000 in
theorem walk_FnExactSampleVillage (w : World)  :
    Calls Try.prog 10 #[] w fun e w' => e = .returned (.bool true) ∧ Below w.heap.size w w' := by
  have hsl : (newV 200 100 1).book.evs.length ≤ 0 ∧ (newV 200 100 1).rights.length ≤ 1 := ⟨Nat.le_refl _, Nat.le_refl _⟩
  have hB0 : Below w.heap.size w w := Below.refl _ _
  go_enter Try.func10, Try.ntmps10
  go_wp2_with fail
  refine name_world ?_
  intro W1 hW1
  have hp1 : Below w.heap.size w W1 := by rw [hW1]; repeat' (first | (with_reducible exact Below.refl _ _) | (with_reducible refine Below.alloc ?_ ?_ _) | (with_reducible refine Below.setCell ?_ ?_ _) | (with_reducible refine Below.drew ?_) | (simp; done) | (simp; omega))
  have hB1 := hB0.trans (hp1.mono hB0.size)
  have hz1 : w.heap.size ≤ W1.heap.size := hp1.size
  have HW1 := Lib.hid hW1; clear hW1
  refine (SampleVillageS_any  _).mono ?_
  rintro e w1 ⟨Ar0_1, cr0_1, Rr0_1, dr0_1, rfl, ho0_1, ho1_1, hb1⟩
  try simp only [Bk.val, Vg.val]
  have hB1' := hB1.trans (hb1.mono hB1.size)
  have hz1' : W1.heap.size ≤ w1.heap.size := hb1.size
  have ow0_1_0_n := Row2.born ho0_1
  clear ho0_1
  have ow0_1_1_n := Row2.born ho1_1
  clear ho1_1
  go_wp2_with fail
  refine name_world ?_
  intro W2 hW2
  have hp2 : Below w1.heap.size w1 W2 := by rw [hW2]; repeat' (first | (with_reducible exact Below.refl _ _) | (with_reducible refine Below.alloc ?_ ?_ _) | (with_reducible refine Below.setCell ?_ ?_ _) | (with_reducible refine Below.drew ?_) | (simp; done) | (simp; omega))
  have kb1_0_2 : W2.cell? ⟨w1.heap.size, 0, none⟩ = some (.int .i64 (newV 200 100 1).book.room) := by rw [hW2]; simp [go_sem]
  have kb1_1_2 : W2.cell? ⟨w1.heap.size, 1, none⟩ = some (.int .i64 (newV 200 100 1).book.start) := by rw [hW2]; simp [go_sem]
  have kb1_2_2 : W2.cell? ⟨w1.heap.size, 2, none⟩ = some (.slice Ar0_1 (newV 200 100 1).book.evs.length cr0_1) := by rw [hW2]; simp [go_sem]
  have kb1_3_2 : W2.cell? ⟨w1.heap.size, 3, none⟩ = some (.int .i64 (newV 200 100 1).book.level) := by rw [hW2]; simp [go_sem]
  have kb1_4_2 : W2.cell? ⟨w1.heap.size, 4, none⟩ = some (.int .i64 (newV 200 100 1).book.rained) := by rw [hW2]; simp [go_sem]
  have kb1_5_2 : W2.cell? ⟨w1.heap.size, 5, none⟩ = some (.int .i64 (newV 200 100 1).book.drunk) := by rw [hW2]; simp [go_sem]
  have kb1_6_2 : W2.cell? ⟨w1.heap.size, 6, none⟩ = some (.int .i64 (newV 200 100 1).book.lost) := by rw [hW2]; simp [go_sem]
  have kb1_7_2 : W2.cell? ⟨w1.heap.size, 7, none⟩ = some (.slice Rr0_1 (newV 200 100 1).rights.length dr0_1) := by rw [hW2]; simp [go_sem]
  have hl_b1 : w1.heap.size < W2.heap.size := by rw [hW2]; simp
  have ow0_1_0_2 := Row2.below ow0_1_0_n hp2 (by omega)
  clear ow0_1_0_n
  have ow0_1_1_2 := Row2.below ow0_1_1_n hp2 (by omega)
  clear ow0_1_1_n
  have hB2 := hB1'.trans (hp2.mono hB1'.size)
  have hz2 : w1.heap.size ≤ W2.heap.size := hp2.size
  have HW2 := Lib.hid hW2; clear hW2
  refine (SampleVillage_any  _).mono ?_
  rintro e w2 ⟨Ar0_2, cr0_2, Rr0_2, dr0_2, rfl, ho0_2, ho1_2, hb2⟩
  try simp only [Bk.val, Vg.val]
  have ow0_1_0_2' := Row2.below ow0_1_0_2 hb2 (by omega)
  clear ow0_1_0_2
  have ow0_1_1_2' := Row2.below ow0_1_1_2 hb2 (by omega)
  clear ow0_1_1_2
  have kb1_0_2' := (hb2.cell (p := ⟨w1.heap.size, 0, none⟩) (by show w1.heap.size < _; omega)).trans kb1_0_2
  clear kb1_0_2
  have kb1_1_2' := (hb2.cell (p := ⟨w1.heap.size, 1, none⟩) (by show w1.heap.size < _; omega)).trans kb1_1_2
  clear kb1_1_2
  have kb1_2_2' := (hb2.cell (p := ⟨w1.heap.size, 2, none⟩) (by show w1.heap.size < _; omega)).trans kb1_2_2
  clear kb1_2_2
  have kb1_3_2' := (hb2.cell (p := ⟨w1.heap.size, 3, none⟩) (by show w1.heap.size < _; omega)).trans kb1_3_2
  clear kb1_3_2
  have kb1_4_2' := (hb2.cell (p := ⟨w1.heap.size, 4, none⟩) (by show w1.heap.size < _; omega)).trans kb1_4_2
  clear kb1_4_2
  have kb1_5_2' := (hb2.cell (p := ⟨w1.heap.size, 5, none⟩) (by show w1.heap.size < _; omega)).trans kb1_5_2
  clear kb1_5_2
  have kb1_6_2' := (hb2.cell (p := ⟨w1.heap.size, 6, none⟩) (by show w1.heap.size < _; omega)).trans kb1_6_2
  clear kb1_6_2
  have kb1_7_2' := (hb2.cell (p := ⟨w1.heap.size, 7, none⟩) (by show w1.heap.size < _; omega)).trans kb1_7_2
  clear kb1_7_2
  have hB2' := hB2.trans (hb2.mono hB2.size)
  have hz2' : W2.heap.size ≤ w2.heap.size := hb2.size
  have hl_b1_2' : w1.heap.size < w2.heap.size := by omega
  have og0_2_0_n := Row2.born ho0_2
  clear ho0_2
  have og0_2_1_n := Row2.born ho1_2
  clear ho1_2
  go_wp2_with fail
  refine name_world ?_
  intro W3 hW3
  have hp3 : Below w2.heap.size w2 W3 := by rw [hW3]; repeat' (first | (with_reducible exact Below.refl _ _) | (with_reducible refine Below.alloc ?_ ?_ _) | (with_reducible refine Below.setCell ?_ ?_ _) | (with_reducible refine Below.drew ?_) | (simp; done) | (simp; omega))
  have kb2_0_3 : W3.cell? ⟨w2.heap.size, 0, none⟩ = some (.int .i64 (newV 200 100 1).book.room) := by rw [hW3]; simp [go_sem]
  have kb2_1_3 : W3.cell? ⟨w2.heap.size, 1, none⟩ = some (.int .i64 (newV 200 100 1).book.start) := by rw [hW3]; simp [go_sem]
  have kb2_2_3 : W3.cell? ⟨w2.heap.size, 2, none⟩ = some (.slice Ar0_2 (newV 200 100 1).book.evs.length cr0_2) := by rw [hW3]; simp [go_sem]
  have kb2_3_3 : W3.cell? ⟨w2.heap.size, 3, none⟩ = some (.int .i64 (newV 200 100 1).book.level) := by rw [hW3]; simp [go_sem]
  have kb2_4_3 : W3.cell? ⟨w2.heap.size, 4, none⟩ = some (.int .i64 (newV 200 100 1).book.rained) := by rw [hW3]; simp [go_sem]
  have kb2_5_3 : W3.cell? ⟨w2.heap.size, 5, none⟩ = some (.int .i64 (newV 200 100 1).book.drunk) := by rw [hW3]; simp [go_sem]
  have kb2_6_3 : W3.cell? ⟨w2.heap.size, 6, none⟩ = some (.int .i64 (newV 200 100 1).book.lost) := by rw [hW3]; simp [go_sem]
  have kb2_7_3 : W3.cell? ⟨w2.heap.size, 7, none⟩ = some (.slice Rr0_2 (newV 200 100 1).rights.length dr0_2) := by rw [hW3]; simp [go_sem]
  have hl_b2 : w2.heap.size < W3.heap.size := by rw [hW3]; simp
  have ow0_1_0_3 := Row2.below ow0_1_0_2' hp3 (by omega)
  clear ow0_1_0_2'
  have ow0_1_1_3 := Row2.below ow0_1_1_2' hp3 (by omega)
  clear ow0_1_1_2'
  have og0_2_0_3 := Row2.below og0_2_0_n hp3 (by omega)
  clear og0_2_0_n
  have og0_2_1_3 := Row2.below og0_2_1_n hp3 (by omega)
  clear og0_2_1_n
  have kb1_0_3 := (hp3.cell (p := ⟨w1.heap.size, 0, none⟩) (by show w1.heap.size < _; omega)).trans kb1_0_2'
  clear kb1_0_2'
  have kb1_1_3 := (hp3.cell (p := ⟨w1.heap.size, 1, none⟩) (by show w1.heap.size < _; omega)).trans kb1_1_2'
  clear kb1_1_2'
  have kb1_2_3 := (hp3.cell (p := ⟨w1.heap.size, 2, none⟩) (by show w1.heap.size < _; omega)).trans kb1_2_2'
  clear kb1_2_2'
  have kb1_3_3 := (hp3.cell (p := ⟨w1.heap.size, 3, none⟩) (by show w1.heap.size < _; omega)).trans kb1_3_2'
  clear kb1_3_2'
  have kb1_4_3 := (hp3.cell (p := ⟨w1.heap.size, 4, none⟩) (by show w1.heap.size < _; omega)).trans kb1_4_2'
  clear kb1_4_2'
  have kb1_5_3 := (hp3.cell (p := ⟨w1.heap.size, 5, none⟩) (by show w1.heap.size < _; omega)).trans kb1_5_2'
  clear kb1_5_2'
  have kb1_6_3 := (hp3.cell (p := ⟨w1.heap.size, 6, none⟩) (by show w1.heap.size < _; omega)).trans kb1_6_2'
  clear kb1_6_2'
  have kb1_7_3 := (hp3.cell (p := ⟨w1.heap.size, 7, none⟩) (by show w1.heap.size < _; omega)).trans kb1_7_2'
  clear kb1_7_2'
  have hB3 := hB2'.trans (hp3.mono hB2'.size)
  have hz3 : w2.heap.size ≤ W3.heap.size := hp3.size
  have hl_b1_3 : w1.heap.size < W3.heap.size := by omega
  have HW3 := Lib.hid hW3; clear hW3
  refine (eqVillage_same Ar0_2 cr0_2 Rr0_2 dr0_2 Ar0_1 cr0_1 Rr0_1 dr0_1 ((newV 200 100 1)) _ og0_2_0_3.rd og0_2_1_3.rd ow0_1_0_3.rd ow0_1_1_3.rd).mono ?_
  rintro e w3 ⟨rfl, hb3⟩
  try simp only [Bk.val, Vg.val]
  have ow0_1_0_3' := Row2.below ow0_1_0_3 hb3 (by omega)
  clear ow0_1_0_3
  have ow0_1_1_3' := Row2.below ow0_1_1_3 hb3 (by omega)
  clear ow0_1_1_3
  have og0_2_0_3' := Row2.below og0_2_0_3 hb3 (by omega)
  clear og0_2_0_3
  have og0_2_1_3' := Row2.below og0_2_1_3 hb3 (by omega)
  clear og0_2_1_3
  have kb1_0_3' := (hb3.cell (p := ⟨w1.heap.size, 0, none⟩) (by show w1.heap.size < _; omega)).trans kb1_0_3
  clear kb1_0_3
  have kb1_1_3' := (hb3.cell (p := ⟨w1.heap.size, 1, none⟩) (by show w1.heap.size < _; omega)).trans kb1_1_3
  clear kb1_1_3
  have kb1_2_3' := (hb3.cell (p := ⟨w1.heap.size, 2, none⟩) (by show w1.heap.size < _; omega)).trans kb1_2_3
  clear kb1_2_3
  have kb1_3_3' := (hb3.cell (p := ⟨w1.heap.size, 3, none⟩) (by show w1.heap.size < _; omega)).trans kb1_3_3
  clear kb1_3_3
  have kb1_4_3' := (hb3.cell (p := ⟨w1.heap.size, 4, none⟩) (by show w1.heap.size < _; omega)).trans kb1_4_3
  clear kb1_4_3
  have kb1_5_3' := (hb3.cell (p := ⟨w1.heap.size, 5, none⟩) (by show w1.heap.size < _; omega)).trans kb1_5_3
  clear kb1_5_3
  have kb1_6_3' := (hb3.cell (p := ⟨w1.heap.size, 6, none⟩) (by show w1.heap.size < _; omega)).trans kb1_6_3
  clear kb1_6_3
  have kb1_7_3' := (hb3.cell (p := ⟨w1.heap.size, 7, none⟩) (by show w1.heap.size < _; omega)).trans kb1_7_3
  clear kb1_7_3
  have kb2_0_3' := (hb3.cell (p := ⟨w2.heap.size, 0, none⟩) (by show w2.heap.size < _; omega)).trans kb2_0_3
  clear kb2_0_3
  have kb2_1_3' := (hb3.cell (p := ⟨w2.heap.size, 1, none⟩) (by show w2.heap.size < _; omega)).trans kb2_1_3
  clear kb2_1_3
  have kb2_2_3' := (hb3.cell (p := ⟨w2.heap.size, 2, none⟩) (by show w2.heap.size < _; omega)).trans kb2_2_3
  clear kb2_2_3
  have kb2_3_3' := (hb3.cell (p := ⟨w2.heap.size, 3, none⟩) (by show w2.heap.size < _; omega)).trans kb2_3_3
  clear kb2_3_3
  have kb2_4_3' := (hb3.cell (p := ⟨w2.heap.size, 4, none⟩) (by show w2.heap.size < _; omega)).trans kb2_4_3
  clear kb2_4_3
  have kb2_5_3' := (hb3.cell (p := ⟨w2.heap.size, 5, none⟩) (by show w2.heap.size < _; omega)).trans kb2_5_3
  clear kb2_5_3
  have kb2_6_3' := (hb3.cell (p := ⟨w2.heap.size, 6, none⟩) (by show w2.heap.size < _; omega)).trans kb2_6_3
  clear kb2_6_3
  have kb2_7_3' := (hb3.cell (p := ⟨w2.heap.size, 7, none⟩) (by show w2.heap.size < _; omega)).trans kb2_7_3
  clear kb2_7_3
  have hB3' := hB3.trans (hb3.mono hB3.size)
  have hz3' : W3.heap.size ≤ w3.heap.size := hb3.size
  have hl_b1_3' : w1.heap.size < w3.heap.size := by omega
  have hl_b2_3' : w2.heap.size < w3.heap.size := by omega
  go_wp2_with fail
  refine name_world ?_
  intro W4 hW4
  have hp4 : Below w3.heap.size w3 W4 := by rw [hW4]; repeat' (first | (with_reducible exact Below.refl _ _) | (with_reducible refine Below.alloc ?_ ?_ _) | (with_reducible refine Below.setCell ?_ ?_ _) | (with_reducible refine Below.drew ?_) | (simp; done) | (simp; omega))
  have ow0_1_0_4 := Row2.below ow0_1_0_3' hp4 (by omega)
  clear ow0_1_0_3'
  have ow0_1_1_4 := Row2.below ow0_1_1_3' hp4 (by omega)
  clear ow0_1_1_3'
  have og0_2_0_4 := Row2.below og0_2_0_3' hp4 (by omega)
  clear og0_2_0_3'
  have og0_2_1_4 := Row2.below og0_2_1_3' hp4 (by omega)
  clear og0_2_1_3'
  have kb1_0_4 := (hp4.cell (p := ⟨w1.heap.size, 0, none⟩) (by show w1.heap.size < _; omega)).trans kb1_0_3'
  clear kb1_0_3'
  have kb1_1_4 := (hp4.cell (p := ⟨w1.heap.size, 1, none⟩) (by show w1.heap.size < _; omega)).trans kb1_1_3'
  clear kb1_1_3'
  have kb1_2_4 := (hp4.cell (p := ⟨w1.heap.size, 2, none⟩) (by show w1.heap.size < _; omega)).trans kb1_2_3'
  clear kb1_2_3'
  have kb1_3_4 := (hp4.cell (p := ⟨w1.heap.size, 3, none⟩) (by show w1.heap.size < _; omega)).trans kb1_3_3'
  clear kb1_3_3'
  have kb1_4_4 := (hp4.cell (p := ⟨w1.heap.size, 4, none⟩) (by show w1.heap.size < _; omega)).trans kb1_4_3'
  clear kb1_4_3'
  have kb1_5_4 := (hp4.cell (p := ⟨w1.heap.size, 5, none⟩) (by show w1.heap.size < _; omega)).trans kb1_5_3'
  clear kb1_5_3'
  have kb1_6_4 := (hp4.cell (p := ⟨w1.heap.size, 6, none⟩) (by show w1.heap.size < _; omega)).trans kb1_6_3'
  clear kb1_6_3'
  have kb1_7_4 := (hp4.cell (p := ⟨w1.heap.size, 7, none⟩) (by show w1.heap.size < _; omega)).trans kb1_7_3'
  clear kb1_7_3'
  have kb2_0_4 := (hp4.cell (p := ⟨w2.heap.size, 0, none⟩) (by show w2.heap.size < _; omega)).trans kb2_0_3'
  clear kb2_0_3'
  have kb2_1_4 := (hp4.cell (p := ⟨w2.heap.size, 1, none⟩) (by show w2.heap.size < _; omega)).trans kb2_1_3'
  clear kb2_1_3'
  have kb2_2_4 := (hp4.cell (p := ⟨w2.heap.size, 2, none⟩) (by show w2.heap.size < _; omega)).trans kb2_2_3'
  clear kb2_2_3'
  have kb2_3_4 := (hp4.cell (p := ⟨w2.heap.size, 3, none⟩) (by show w2.heap.size < _; omega)).trans kb2_3_3'
  clear kb2_3_3'
  have kb2_4_4 := (hp4.cell (p := ⟨w2.heap.size, 4, none⟩) (by show w2.heap.size < _; omega)).trans kb2_4_3'
  clear kb2_4_3'
  have kb2_5_4 := (hp4.cell (p := ⟨w2.heap.size, 5, none⟩) (by show w2.heap.size < _; omega)).trans kb2_5_3'
  clear kb2_5_3'
  have kb2_6_4 := (hp4.cell (p := ⟨w2.heap.size, 6, none⟩) (by show w2.heap.size < _; omega)).trans kb2_6_3'
  clear kb2_6_3'
  have kb2_7_4 := (hp4.cell (p := ⟨w2.heap.size, 7, none⟩) (by show w2.heap.size < _; omega)).trans kb2_7_3'
  clear kb2_7_3'
  have hB4 := hB3'.trans (hp4.mono hB3'.size)
  have hz4 : w3.heap.size ≤ W4.heap.size := hp4.size
  have hl_b1_4 : w1.heap.size < W4.heap.size := by omega
  have hl_b2_4 : w2.heap.size < W4.heap.size := by omega
  have HW4 := Lib.hid hW4; clear hW4
  refine (markVillage_2 Ar0_2 cr0_2 Rr0_2 dr0_2 _ _ ((newV 200 100 1)) (1) _ (by omega) _ og0_2_0_4 og0_2_1_4 (by first | omega | (simp; omega))).mono ?_
  rintro e w4 ⟨rfl, hm0_4, hm1_4, hc4⟩
  try simp only [Bk.val, Vg.val]
  have ow0_1_0_4' := Row2.chg ow0_1_0_4 hc4 (by omega)
  clear ow0_1_0_4
  have ow0_1_1_4' := Row2.chg ow0_1_1_4 hc4 (by omega)
  clear ow0_1_1_4
  clear og0_2_0_4
  clear og0_2_1_4
  have kb1_0_4' := (Chg.cell hc4 (p := ⟨w1.heap.size, 0, none⟩) (by show w1.heap.size < _; omega) (by show w1.heap.size < _ ∨ _ ≤ w1.heap.size; omega)).trans kb1_0_4
  clear kb1_0_4
  have kb1_1_4' := (Chg.cell hc4 (p := ⟨w1.heap.size, 1, none⟩) (by show w1.heap.size < _; omega) (by show w1.heap.size < _ ∨ _ ≤ w1.heap.size; omega)).trans kb1_1_4
  clear kb1_1_4
  have kb1_2_4' := (Chg.cell hc4 (p := ⟨w1.heap.size, 2, none⟩) (by show w1.heap.size < _; omega) (by show w1.heap.size < _ ∨ _ ≤ w1.heap.size; omega)).trans kb1_2_4
  clear kb1_2_4
  have kb1_3_4' := (Chg.cell hc4 (p := ⟨w1.heap.size, 3, none⟩) (by show w1.heap.size < _; omega) (by show w1.heap.size < _ ∨ _ ≤ w1.heap.size; omega)).trans kb1_3_4
  clear kb1_3_4
  have kb1_4_4' := (Chg.cell hc4 (p := ⟨w1.heap.size, 4, none⟩) (by show w1.heap.size < _; omega) (by show w1.heap.size < _ ∨ _ ≤ w1.heap.size; omega)).trans kb1_4_4
  clear kb1_4_4
  have kb1_5_4' := (Chg.cell hc4 (p := ⟨w1.heap.size, 5, none⟩) (by show w1.heap.size < _; omega) (by show w1.heap.size < _ ∨ _ ≤ w1.heap.size; omega)).trans kb1_5_4
  clear kb1_5_4
  have kb1_6_4' := (Chg.cell hc4 (p := ⟨w1.heap.size, 6, none⟩) (by show w1.heap.size < _; omega) (by show w1.heap.size < _ ∨ _ ≤ w1.heap.size; omega)).trans kb1_6_4
  clear kb1_6_4
  have kb1_7_4' := (Chg.cell hc4 (p := ⟨w1.heap.size, 7, none⟩) (by show w1.heap.size < _; omega) (by show w1.heap.size < _ ∨ _ ≤ w1.heap.size; omega)).trans kb1_7_4
  clear kb1_7_4
  have kb2_0_4' := (Chg.cell hc4 (p := ⟨w2.heap.size, 0, none⟩) (by show w2.heap.size < _; omega) (by show w2.heap.size < _ ∨ _ ≤ w2.heap.size; omega)).trans kb2_0_4
  clear kb2_0_4
  have kb2_1_4' := (Chg.cell hc4 (p := ⟨w2.heap.size, 1, none⟩) (by show w2.heap.size < _; omega) (by show w2.heap.size < _ ∨ _ ≤ w2.heap.size; omega)).trans kb2_1_4
  clear kb2_1_4
  have kb2_2_4' := (Chg.cell hc4 (p := ⟨w2.heap.size, 2, none⟩) (by show w2.heap.size < _; omega) (by show w2.heap.size < _ ∨ _ ≤ w2.heap.size; omega)).trans kb2_2_4
  clear kb2_2_4
  have kb2_3_4' := (Chg.cell hc4 (p := ⟨w2.heap.size, 3, none⟩) (by show w2.heap.size < _; omega) (by show w2.heap.size < _ ∨ _ ≤ w2.heap.size; omega)).trans kb2_3_4
  clear kb2_3_4
  have kb2_4_4' := (Chg.cell hc4 (p := ⟨w2.heap.size, 4, none⟩) (by show w2.heap.size < _; omega) (by show w2.heap.size < _ ∨ _ ≤ w2.heap.size; omega)).trans kb2_4_4
  clear kb2_4_4
  have kb2_5_4' := (Chg.cell hc4 (p := ⟨w2.heap.size, 5, none⟩) (by show w2.heap.size < _; omega) (by show w2.heap.size < _ ∨ _ ≤ w2.heap.size; omega)).trans kb2_5_4
  clear kb2_5_4
  have kb2_6_4' := (Chg.cell hc4 (p := ⟨w2.heap.size, 6, none⟩) (by show w2.heap.size < _; omega) (by show w2.heap.size < _ ∨ _ ≤ w2.heap.size; omega)).trans kb2_6_4
  clear kb2_6_4
  have kb2_7_4' := (Chg.cell hc4 (p := ⟨w2.heap.size, 7, none⟩) (by show w2.heap.size < _; omega) (by show w2.heap.size < _ ∨ _ ≤ w2.heap.size; omega)).trans kb2_7_4
  clear kb2_7_4
  have hB4' := Chg.below hB4 hc4 (by omega) hB4.size
  have hz4' : W4.heap.size ≤ w4.heap.size := hc4.size
  have hl_b1_4' : w1.heap.size < w4.heap.size := by omega
  have hl_b2_4' : w2.heap.size < w4.heap.size := by omega
  go_wp2_with fail
  refine name_world ?_
  intro W5 hW5
  have hp5 : Below w4.heap.size w4 W5 := by rw [hW5]; repeat' (first | (with_reducible exact Below.refl _ _) | (with_reducible refine Below.alloc ?_ ?_ _) | (with_reducible refine Below.setCell ?_ ?_ _) | (with_reducible refine Below.drew ?_) | (simp; done) | (simp; omega))
  have ow0_1_0_5 := Row2.below ow0_1_0_4' hp5 (by omega)
  clear ow0_1_0_4'
  have ow0_1_1_5 := Row2.below ow0_1_1_4' hp5 (by omega)
  clear ow0_1_1_4'
  have og0_2_0_5 := Row2.below hm0_4 hp5 (by omega)
  clear hm0_4
  have og0_2_1_5 := Row2.below hm1_4 hp5 (by omega)
  clear hm1_4
  have kb1_0_5 := (hp5.cell (p := ⟨w1.heap.size, 0, none⟩) (by show w1.heap.size < _; omega)).trans kb1_0_4'
  clear kb1_0_4'
  have kb1_1_5 := (hp5.cell (p := ⟨w1.heap.size, 1, none⟩) (by show w1.heap.size < _; omega)).trans kb1_1_4'
  clear kb1_1_4'
  have kb1_2_5 := (hp5.cell (p := ⟨w1.heap.size, 2, none⟩) (by show w1.heap.size < _; omega)).trans kb1_2_4'
  clear kb1_2_4'
  have kb1_3_5 := (hp5.cell (p := ⟨w1.heap.size, 3, none⟩) (by show w1.heap.size < _; omega)).trans kb1_3_4'
  clear kb1_3_4'
  have kb1_4_5 := (hp5.cell (p := ⟨w1.heap.size, 4, none⟩) (by show w1.heap.size < _; omega)).trans kb1_4_4'
  clear kb1_4_4'
  have kb1_5_5 := (hp5.cell (p := ⟨w1.heap.size, 5, none⟩) (by show w1.heap.size < _; omega)).trans kb1_5_4'
  clear kb1_5_4'
  have kb1_6_5 := (hp5.cell (p := ⟨w1.heap.size, 6, none⟩) (by show w1.heap.size < _; omega)).trans kb1_6_4'
  clear kb1_6_4'
  have kb1_7_5 := (hp5.cell (p := ⟨w1.heap.size, 7, none⟩) (by show w1.heap.size < _; omega)).trans kb1_7_4'
  clear kb1_7_4'
  have kb2_0_5 := (hp5.cell (p := ⟨w2.heap.size, 0, none⟩) (by show w2.heap.size < _; omega)).trans kb2_0_4'
  clear kb2_0_4'
  have kb2_1_5 := (hp5.cell (p := ⟨w2.heap.size, 1, none⟩) (by show w2.heap.size < _; omega)).trans kb2_1_4'
  clear kb2_1_4'
  have kb2_2_5 := (hp5.cell (p := ⟨w2.heap.size, 2, none⟩) (by show w2.heap.size < _; omega)).trans kb2_2_4'
  clear kb2_2_4'
  have kb2_3_5 := (hp5.cell (p := ⟨w2.heap.size, 3, none⟩) (by show w2.heap.size < _; omega)).trans kb2_3_4'
  clear kb2_3_4'
  have kb2_4_5 := (hp5.cell (p := ⟨w2.heap.size, 4, none⟩) (by show w2.heap.size < _; omega)).trans kb2_4_4'
  clear kb2_4_4'
  have kb2_5_5 := (hp5.cell (p := ⟨w2.heap.size, 5, none⟩) (by show w2.heap.size < _; omega)).trans kb2_5_4'
  clear kb2_5_4'
  have kb2_6_5 := (hp5.cell (p := ⟨w2.heap.size, 6, none⟩) (by show w2.heap.size < _; omega)).trans kb2_6_4'
  clear kb2_6_4'
  have kb2_7_5 := (hp5.cell (p := ⟨w2.heap.size, 7, none⟩) (by show w2.heap.size < _; omega)).trans kb2_7_4'
  clear kb2_7_4'
  have hB5 := hB4'.trans (hp5.mono hB4'.size)
  have hz5 : w4.heap.size ≤ W5.heap.size := hp5.size
  have hl_b1_5 : w1.heap.size < W5.heap.size := by omega
  have hl_b2_5 : w2.heap.size < W5.heap.size := by omega
  have HW5 := Lib.hid hW5; clear hW5
  refine (heldVillage_2 Ar0_2 cr0_2 Rr0_2 dr0_2 _ _ ((newV 200 100 1)) (1) _ (by omega) _ og0_2_0_5 og0_2_1_5 (by first | omega | (simp; omega))).mono ?_
  rintro e w5 ⟨rfl, hb5⟩
  try simp only [Bk.val, Vg.val]
  have ow0_1_0_5' := Row2.below ow0_1_0_5 hb5 (by omega)
  clear ow0_1_0_5
  have ow0_1_1_5' := Row2.below ow0_1_1_5 hb5 (by omega)
  clear ow0_1_1_5
  have og0_2_0_5' := Row2.below og0_2_0_5 hb5 (by omega)
  clear og0_2_0_5
  have og0_2_1_5' := Row2.below og0_2_1_5 hb5 (by omega)
  clear og0_2_1_5
  have kb1_0_5' := (hb5.cell (p := ⟨w1.heap.size, 0, none⟩) (by show w1.heap.size < _; omega)).trans kb1_0_5
  clear kb1_0_5
  have kb1_1_5' := (hb5.cell (p := ⟨w1.heap.size, 1, none⟩) (by show w1.heap.size < _; omega)).trans kb1_1_5
  clear kb1_1_5
  have kb1_2_5' := (hb5.cell (p := ⟨w1.heap.size, 2, none⟩) (by show w1.heap.size < _; omega)).trans kb1_2_5
  clear kb1_2_5
  have kb1_3_5' := (hb5.cell (p := ⟨w1.heap.size, 3, none⟩) (by show w1.heap.size < _; omega)).trans kb1_3_5
  clear kb1_3_5
  have kb1_4_5' := (hb5.cell (p := ⟨w1.heap.size, 4, none⟩) (by show w1.heap.size < _; omega)).trans kb1_4_5
  clear kb1_4_5
  have kb1_5_5' := (hb5.cell (p := ⟨w1.heap.size, 5, none⟩) (by show w1.heap.size < _; omega)).trans kb1_5_5
  clear kb1_5_5
  have kb1_6_5' := (hb5.cell (p := ⟨w1.heap.size, 6, none⟩) (by show w1.heap.size < _; omega)).trans kb1_6_5
  clear kb1_6_5
  have kb1_7_5' := (hb5.cell (p := ⟨w1.heap.size, 7, none⟩) (by show w1.heap.size < _; omega)).trans kb1_7_5
  clear kb1_7_5
  have kb2_0_5' := (hb5.cell (p := ⟨w2.heap.size, 0, none⟩) (by show w2.heap.size < _; omega)).trans kb2_0_5
  clear kb2_0_5
  have kb2_1_5' := (hb5.cell (p := ⟨w2.heap.size, 1, none⟩) (by show w2.heap.size < _; omega)).trans kb2_1_5
  clear kb2_1_5
  have kb2_2_5' := (hb5.cell (p := ⟨w2.heap.size, 2, none⟩) (by show w2.heap.size < _; omega)).trans kb2_2_5
  clear kb2_2_5
  have kb2_3_5' := (hb5.cell (p := ⟨w2.heap.size, 3, none⟩) (by show w2.heap.size < _; omega)).trans kb2_3_5
  clear kb2_3_5
  have kb2_4_5' := (hb5.cell (p := ⟨w2.heap.size, 4, none⟩) (by show w2.heap.size < _; omega)).trans kb2_4_5
  clear kb2_4_5
  have kb2_5_5' := (hb5.cell (p := ⟨w2.heap.size, 5, none⟩) (by show w2.heap.size < _; omega)).trans kb2_5_5
  clear kb2_5_5
  have kb2_6_5' := (hb5.cell (p := ⟨w2.heap.size, 6, none⟩) (by show w2.heap.size < _; omega)).trans kb2_6_5
  clear kb2_6_5
  have kb2_7_5' := (hb5.cell (p := ⟨w2.heap.size, 7, none⟩) (by show w2.heap.size < _; omega)).trans kb2_7_5
  clear kb2_7_5
  have hB5' := hB5.trans (hb5.mono hB5.size)
  have hz5' : W5.heap.size ≤ w5.heap.size := hb5.size
  have hl_b1_5' : w1.heap.size < w5.heap.size := by omega
  have hl_b2_5' : w2.heap.size < w5.heap.size := by omega
  go_wp2_with fail
  refine name_world ?_
  intro W6 hW6
  have hp6 : Below w5.heap.size w5 W6 := by rw [hW6]; repeat' (first | (with_reducible exact Below.refl _ _) | (with_reducible refine Below.alloc ?_ ?_ _) | (with_reducible refine Below.setCell ?_ ?_ _) | (with_reducible refine Below.drew ?_) | (simp; done) | (simp; omega))
  have ow0_1_0_6 := Row2.below ow0_1_0_5' hp6 (by omega)
  clear ow0_1_0_5'
  have ow0_1_1_6 := Row2.below ow0_1_1_5' hp6 (by omega)
  clear ow0_1_1_5'
  have og0_2_0_6 := Row2.below og0_2_0_5' hp6 (by omega)
  clear og0_2_0_5'
  have og0_2_1_6 := Row2.below og0_2_1_5' hp6 (by omega)
  clear og0_2_1_5'
  have kb1_0_6 := (hp6.cell (p := ⟨w1.heap.size, 0, none⟩) (by show w1.heap.size < _; omega)).trans kb1_0_5'
  clear kb1_0_5'
  have kb1_1_6 := (hp6.cell (p := ⟨w1.heap.size, 1, none⟩) (by show w1.heap.size < _; omega)).trans kb1_1_5'
  clear kb1_1_5'
  have kb1_2_6 := (hp6.cell (p := ⟨w1.heap.size, 2, none⟩) (by show w1.heap.size < _; omega)).trans kb1_2_5'
  clear kb1_2_5'
  have kb1_3_6 := (hp6.cell (p := ⟨w1.heap.size, 3, none⟩) (by show w1.heap.size < _; omega)).trans kb1_3_5'
  clear kb1_3_5'
  have kb1_4_6 := (hp6.cell (p := ⟨w1.heap.size, 4, none⟩) (by show w1.heap.size < _; omega)).trans kb1_4_5'
  clear kb1_4_5'
  have kb1_5_6 := (hp6.cell (p := ⟨w1.heap.size, 5, none⟩) (by show w1.heap.size < _; omega)).trans kb1_5_5'
  clear kb1_5_5'
  have kb1_6_6 := (hp6.cell (p := ⟨w1.heap.size, 6, none⟩) (by show w1.heap.size < _; omega)).trans kb1_6_5'
  clear kb1_6_5'
  have kb1_7_6 := (hp6.cell (p := ⟨w1.heap.size, 7, none⟩) (by show w1.heap.size < _; omega)).trans kb1_7_5'
  clear kb1_7_5'
  have kb2_0_6 := (hp6.cell (p := ⟨w2.heap.size, 0, none⟩) (by show w2.heap.size < _; omega)).trans kb2_0_5'
  clear kb2_0_5'
  have kb2_1_6 := (hp6.cell (p := ⟨w2.heap.size, 1, none⟩) (by show w2.heap.size < _; omega)).trans kb2_1_5'
  clear kb2_1_5'
  have kb2_2_6 := (hp6.cell (p := ⟨w2.heap.size, 2, none⟩) (by show w2.heap.size < _; omega)).trans kb2_2_5'
  clear kb2_2_5'
  have kb2_3_6 := (hp6.cell (p := ⟨w2.heap.size, 3, none⟩) (by show w2.heap.size < _; omega)).trans kb2_3_5'
  clear kb2_3_5'
  have kb2_4_6 := (hp6.cell (p := ⟨w2.heap.size, 4, none⟩) (by show w2.heap.size < _; omega)).trans kb2_4_5'
  clear kb2_4_5'
  have kb2_5_6 := (hp6.cell (p := ⟨w2.heap.size, 5, none⟩) (by show w2.heap.size < _; omega)).trans kb2_5_5'
  clear kb2_5_5'
  have kb2_6_6 := (hp6.cell (p := ⟨w2.heap.size, 6, none⟩) (by show w2.heap.size < _; omega)).trans kb2_6_5'
  clear kb2_6_5'
  have kb2_7_6 := (hp6.cell (p := ⟨w2.heap.size, 7, none⟩) (by show w2.heap.size < _; omega)).trans kb2_7_5'
  clear kb2_7_5'
  have hB6 := hB5'.trans (hp6.mono hB5'.size)
  have hz6 : w5.heap.size ≤ W6.heap.size := hp6.size
  have hl_b1_6 : w1.heap.size < W6.heap.size := by omega
  have hl_b2_6 : w2.heap.size < W6.heap.size := by omega
  have HW6 := Lib.hid hW6; clear hW6
  refine (SampleVillage_any  _).mono ?_
  rintro e w6 ⟨Ar0_6, cr0_6, Rr0_6, dr0_6, rfl, ho0_6, ho1_6, hb6⟩
  try simp only [Bk.val, Vg.val]
  have ow0_1_0_6' := Row2.below ow0_1_0_6 hb6 (by omega)
  clear ow0_1_0_6
  have ow0_1_1_6' := Row2.below ow0_1_1_6 hb6 (by omega)
  clear ow0_1_1_6
  have og0_2_0_6' := Row2.below og0_2_0_6 hb6 (by omega)
  clear og0_2_0_6
  have og0_2_1_6' := Row2.below og0_2_1_6 hb6 (by omega)
  clear og0_2_1_6
  have kb1_0_6' := (hb6.cell (p := ⟨w1.heap.size, 0, none⟩) (by show w1.heap.size < _; omega)).trans kb1_0_6
  clear kb1_0_6
  have kb1_1_6' := (hb6.cell (p := ⟨w1.heap.size, 1, none⟩) (by show w1.heap.size < _; omega)).trans kb1_1_6
  clear kb1_1_6
  have kb1_2_6' := (hb6.cell (p := ⟨w1.heap.size, 2, none⟩) (by show w1.heap.size < _; omega)).trans kb1_2_6
  clear kb1_2_6
  have kb1_3_6' := (hb6.cell (p := ⟨w1.heap.size, 3, none⟩) (by show w1.heap.size < _; omega)).trans kb1_3_6
  clear kb1_3_6
  have kb1_4_6' := (hb6.cell (p := ⟨w1.heap.size, 4, none⟩) (by show w1.heap.size < _; omega)).trans kb1_4_6
  clear kb1_4_6
  have kb1_5_6' := (hb6.cell (p := ⟨w1.heap.size, 5, none⟩) (by show w1.heap.size < _; omega)).trans kb1_5_6
  clear kb1_5_6
  have kb1_6_6' := (hb6.cell (p := ⟨w1.heap.size, 6, none⟩) (by show w1.heap.size < _; omega)).trans kb1_6_6
  clear kb1_6_6
  have kb1_7_6' := (hb6.cell (p := ⟨w1.heap.size, 7, none⟩) (by show w1.heap.size < _; omega)).trans kb1_7_6
  clear kb1_7_6
  have kb2_0_6' := (hb6.cell (p := ⟨w2.heap.size, 0, none⟩) (by show w2.heap.size < _; omega)).trans kb2_0_6
  clear kb2_0_6
  have kb2_1_6' := (hb6.cell (p := ⟨w2.heap.size, 1, none⟩) (by show w2.heap.size < _; omega)).trans kb2_1_6
  clear kb2_1_6
  have kb2_2_6' := (hb6.cell (p := ⟨w2.heap.size, 2, none⟩) (by show w2.heap.size < _; omega)).trans kb2_2_6
  clear kb2_2_6
  have kb2_3_6' := (hb6.cell (p := ⟨w2.heap.size, 3, none⟩) (by show w2.heap.size < _; omega)).trans kb2_3_6
  clear kb2_3_6
  have kb2_4_6' := (hb6.cell (p := ⟨w2.heap.size, 4, none⟩) (by show w2.heap.size < _; omega)).trans kb2_4_6
  clear kb2_4_6
  have kb2_5_6' := (hb6.cell (p := ⟨w2.heap.size, 5, none⟩) (by show w2.heap.size < _; omega)).trans kb2_5_6
  clear kb2_5_6
  have kb2_6_6' := (hb6.cell (p := ⟨w2.heap.size, 6, none⟩) (by show w2.heap.size < _; omega)).trans kb2_6_6
  clear kb2_6_6
  have kb2_7_6' := (hb6.cell (p := ⟨w2.heap.size, 7, none⟩) (by show w2.heap.size < _; omega)).trans kb2_7_6
  clear kb2_7_6
  have hB6' := hB6.trans (hb6.mono hB6.size)
  have hz6' : W6.heap.size ≤ w6.heap.size := hb6.size
  have hl_b1_6' : w1.heap.size < w6.heap.size := by omega
  have hl_b2_6' : w2.heap.size < w6.heap.size := by omega
  have oh0_6_0_n := Row2.born ho0_6
  clear ho0_6
  have oh0_6_1_n := Row2.born ho1_6
  clear ho1_6
  go_wp2_with fail
  refine name_world ?_
  intro W7 hW7
  have hp7 : Below w6.heap.size w6 W7 := by rw [hW7]; repeat' (first | (with_reducible exact Below.refl _ _) | (with_reducible refine Below.alloc ?_ ?_ _) | (with_reducible refine Below.setCell ?_ ?_ _) | (with_reducible refine Below.drew ?_) | (simp; done) | (simp; omega))
  have kb3_0_7 : W7.cell? ⟨w6.heap.size, 0, none⟩ = some (.int .i64 (newV 200 100 1).book.room) := by rw [hW7]; simp [go_sem]
  have kb3_1_7 : W7.cell? ⟨w6.heap.size, 1, none⟩ = some (.int .i64 (newV 200 100 1).book.start) := by rw [hW7]; simp [go_sem]
  have kb3_2_7 : W7.cell? ⟨w6.heap.size, 2, none⟩ = some (.slice Ar0_6 (newV 200 100 1).book.evs.length cr0_6) := by rw [hW7]; simp [go_sem]
  have kb3_3_7 : W7.cell? ⟨w6.heap.size, 3, none⟩ = some (.int .i64 (newV 200 100 1).book.level) := by rw [hW7]; simp [go_sem]
  have kb3_4_7 : W7.cell? ⟨w6.heap.size, 4, none⟩ = some (.int .i64 (newV 200 100 1).book.rained) := by rw [hW7]; simp [go_sem]
  have kb3_5_7 : W7.cell? ⟨w6.heap.size, 5, none⟩ = some (.int .i64 (newV 200 100 1).book.drunk) := by rw [hW7]; simp [go_sem]
  have kb3_6_7 : W7.cell? ⟨w6.heap.size, 6, none⟩ = some (.int .i64 (newV 200 100 1).book.lost) := by rw [hW7]; simp [go_sem]
  have kb3_7_7 : W7.cell? ⟨w6.heap.size, 7, none⟩ = some (.slice Rr0_6 (newV 200 100 1).rights.length dr0_6) := by rw [hW7]; simp [go_sem]
  have hl_b3 : w6.heap.size < W7.heap.size := by rw [hW7]; simp
  have ow0_1_0_7 := Row2.below ow0_1_0_6' hp7 (by omega)
  clear ow0_1_0_6'
  have ow0_1_1_7 := Row2.below ow0_1_1_6' hp7 (by omega)
  clear ow0_1_1_6'
  have og0_2_0_7 := Row2.below og0_2_0_6' hp7 (by omega)
  clear og0_2_0_6'
  have og0_2_1_7 := Row2.below og0_2_1_6' hp7 (by omega)
  clear og0_2_1_6'
  have oh0_6_0_7 := Row2.below oh0_6_0_n hp7 (by omega)
  clear oh0_6_0_n
  have oh0_6_1_7 := Row2.below oh0_6_1_n hp7 (by omega)
  clear oh0_6_1_n
  have kb1_0_7 := (hp7.cell (p := ⟨w1.heap.size, 0, none⟩) (by show w1.heap.size < _; omega)).trans kb1_0_6'
  clear kb1_0_6'
  have kb1_1_7 := (hp7.cell (p := ⟨w1.heap.size, 1, none⟩) (by show w1.heap.size < _; omega)).trans kb1_1_6'
  clear kb1_1_6'
  have kb1_2_7 := (hp7.cell (p := ⟨w1.heap.size, 2, none⟩) (by show w1.heap.size < _; omega)).trans kb1_2_6'
  clear kb1_2_6'
  have kb1_3_7 := (hp7.cell (p := ⟨w1.heap.size, 3, none⟩) (by show w1.heap.size < _; omega)).trans kb1_3_6'
  clear kb1_3_6'
  have kb1_4_7 := (hp7.cell (p := ⟨w1.heap.size, 4, none⟩) (by show w1.heap.size < _; omega)).trans kb1_4_6'
  clear kb1_4_6'
  have kb1_5_7 := (hp7.cell (p := ⟨w1.heap.size, 5, none⟩) (by show w1.heap.size < _; omega)).trans kb1_5_6'
  clear kb1_5_6'
  have kb1_6_7 := (hp7.cell (p := ⟨w1.heap.size, 6, none⟩) (by show w1.heap.size < _; omega)).trans kb1_6_6'
  clear kb1_6_6'
  have kb1_7_7 := (hp7.cell (p := ⟨w1.heap.size, 7, none⟩) (by show w1.heap.size < _; omega)).trans kb1_7_6'
  clear kb1_7_6'
  have kb2_0_7 := (hp7.cell (p := ⟨w2.heap.size, 0, none⟩) (by show w2.heap.size < _; omega)).trans kb2_0_6'
  clear kb2_0_6'
  have kb2_1_7 := (hp7.cell (p := ⟨w2.heap.size, 1, none⟩) (by show w2.heap.size < _; omega)).trans kb2_1_6'
  clear kb2_1_6'
  have kb2_2_7 := (hp7.cell (p := ⟨w2.heap.size, 2, none⟩) (by show w2.heap.size < _; omega)).trans kb2_2_6'
  clear kb2_2_6'
  have kb2_3_7 := (hp7.cell (p := ⟨w2.heap.size, 3, none⟩) (by show w2.heap.size < _; omega)).trans kb2_3_6'
  clear kb2_3_6'
  have kb2_4_7 := (hp7.cell (p := ⟨w2.heap.size, 4, none⟩) (by show w2.heap.size < _; omega)).trans kb2_4_6'
  clear kb2_4_6'
  have kb2_5_7 := (hp7.cell (p := ⟨w2.heap.size, 5, none⟩) (by show w2.heap.size < _; omega)).trans kb2_5_6'
  clear kb2_5_6'
  have kb2_6_7 := (hp7.cell (p := ⟨w2.heap.size, 6, none⟩) (by show w2.heap.size < _; omega)).trans kb2_6_6'
  clear kb2_6_6'
  have kb2_7_7 := (hp7.cell (p := ⟨w2.heap.size, 7, none⟩) (by show w2.heap.size < _; omega)).trans kb2_7_6'
  clear kb2_7_6'
  have hB7 := hB6'.trans (hp7.mono hB6'.size)
  have hz7 : w6.heap.size ≤ W7.heap.size := hp7.size
  have hl_b1_7 : w1.heap.size < W7.heap.size := by omega
  have hl_b2_7 : w2.heap.size < W7.heap.size := by omega
  have HW7 := Lib.hid hW7; clear hW7
  refine (eqVillage_same Ar0_6 cr0_6 Rr0_6 dr0_6 Ar0_1 cr0_1 Rr0_1 dr0_1 ((newV 200 100 1)) _ oh0_6_0_7.rd oh0_6_1_7.rd ow0_1_0_7.rd ow0_1_1_7.rd).mono ?_
  rintro e w7 ⟨rfl, hb7⟩
  try simp only [Bk.val, Vg.val]
  have ow0_1_0_7' := Row2.below ow0_1_0_7 hb7 (by omega)
  clear ow0_1_0_7
  have ow0_1_1_7' := Row2.below ow0_1_1_7 hb7 (by omega)
  clear ow0_1_1_7
  have og0_2_0_7' := Row2.below og0_2_0_7 hb7 (by omega)
  clear og0_2_0_7
  have og0_2_1_7' := Row2.below og0_2_1_7 hb7 (by omega)
  clear og0_2_1_7
  have oh0_6_0_7' := Row2.below oh0_6_0_7 hb7 (by omega)
  clear oh0_6_0_7
  have oh0_6_1_7' := Row2.below oh0_6_1_7 hb7 (by omega)
  clear oh0_6_1_7
  have kb1_0_7' := (hb7.cell (p := ⟨w1.heap.size, 0, none⟩) (by show w1.heap.size < _; omega)).trans kb1_0_7
  clear kb1_0_7
  have kb1_1_7' := (hb7.cell (p := ⟨w1.heap.size, 1, none⟩) (by show w1.heap.size < _; omega)).trans kb1_1_7
  clear kb1_1_7
  have kb1_2_7' := (hb7.cell (p := ⟨w1.heap.size, 2, none⟩) (by show w1.heap.size < _; omega)).trans kb1_2_7
  clear kb1_2_7
  have kb1_3_7' := (hb7.cell (p := ⟨w1.heap.size, 3, none⟩) (by show w1.heap.size < _; omega)).trans kb1_3_7
  clear kb1_3_7
  have kb1_4_7' := (hb7.cell (p := ⟨w1.heap.size, 4, none⟩) (by show w1.heap.size < _; omega)).trans kb1_4_7
  clear kb1_4_7
  have kb1_5_7' := (hb7.cell (p := ⟨w1.heap.size, 5, none⟩) (by show w1.heap.size < _; omega)).trans kb1_5_7
  clear kb1_5_7
  have kb1_6_7' := (hb7.cell (p := ⟨w1.heap.size, 6, none⟩) (by show w1.heap.size < _; omega)).trans kb1_6_7
  clear kb1_6_7
  have kb1_7_7' := (hb7.cell (p := ⟨w1.heap.size, 7, none⟩) (by show w1.heap.size < _; omega)).trans kb1_7_7
  clear kb1_7_7
  have kb2_0_7' := (hb7.cell (p := ⟨w2.heap.size, 0, none⟩) (by show w2.heap.size < _; omega)).trans kb2_0_7
  clear kb2_0_7
  have kb2_1_7' := (hb7.cell (p := ⟨w2.heap.size, 1, none⟩) (by show w2.heap.size < _; omega)).trans kb2_1_7
  clear kb2_1_7
  have kb2_2_7' := (hb7.cell (p := ⟨w2.heap.size, 2, none⟩) (by show w2.heap.size < _; omega)).trans kb2_2_7
  clear kb2_2_7
  have kb2_3_7' := (hb7.cell (p := ⟨w2.heap.size, 3, none⟩) (by show w2.heap.size < _; omega)).trans kb2_3_7
  clear kb2_3_7
  have kb2_4_7' := (hb7.cell (p := ⟨w2.heap.size, 4, none⟩) (by show w2.heap.size < _; omega)).trans kb2_4_7
  clear kb2_4_7
  have kb2_5_7' := (hb7.cell (p := ⟨w2.heap.size, 5, none⟩) (by show w2.heap.size < _; omega)).trans kb2_5_7
  clear kb2_5_7
  have kb2_6_7' := (hb7.cell (p := ⟨w2.heap.size, 6, none⟩) (by show w2.heap.size < _; omega)).trans kb2_6_7
  clear kb2_6_7
  have kb2_7_7' := (hb7.cell (p := ⟨w2.heap.size, 7, none⟩) (by show w2.heap.size < _; omega)).trans kb2_7_7
  clear kb2_7_7
  have kb3_0_7' := (hb7.cell (p := ⟨w6.heap.size, 0, none⟩) (by show w6.heap.size < _; omega)).trans kb3_0_7
  clear kb3_0_7
  have kb3_1_7' := (hb7.cell (p := ⟨w6.heap.size, 1, none⟩) (by show w6.heap.size < _; omega)).trans kb3_1_7
  clear kb3_1_7
  have kb3_2_7' := (hb7.cell (p := ⟨w6.heap.size, 2, none⟩) (by show w6.heap.size < _; omega)).trans kb3_2_7
  clear kb3_2_7
  have kb3_3_7' := (hb7.cell (p := ⟨w6.heap.size, 3, none⟩) (by show w6.heap.size < _; omega)).trans kb3_3_7
  clear kb3_3_7
  have kb3_4_7' := (hb7.cell (p := ⟨w6.heap.size, 4, none⟩) (by show w6.heap.size < _; omega)).trans kb3_4_7
  clear kb3_4_7
  have kb3_5_7' := (hb7.cell (p := ⟨w6.heap.size, 5, none⟩) (by show w6.heap.size < _; omega)).trans kb3_5_7
  clear kb3_5_7
  have kb3_6_7' := (hb7.cell (p := ⟨w6.heap.size, 6, none⟩) (by show w6.heap.size < _; omega)).trans kb3_6_7
  clear kb3_6_7
  have kb3_7_7' := (hb7.cell (p := ⟨w6.heap.size, 7, none⟩) (by show w6.heap.size < _; omega)).trans kb3_7_7
  clear kb3_7_7
  have hB7' := hB7.trans (hb7.mono hB7.size)
  have hz7' : W7.heap.size ≤ w7.heap.size := hb7.size
  have hl_b1_7' : w1.heap.size < w7.heap.size := by omega
  have hl_b2_7' : w2.heap.size < w7.heap.size := by omega
  have hl_b3_7' : w6.heap.size < w7.heap.size := by omega
  go_wp2_with fail
  refine name_world ?_
  intro W8 hW8
  have hp8 : Below w7.heap.size w7 W8 := by rw [hW8]; repeat' (first | (with_reducible exact Below.refl _ _) | (with_reducible refine Below.alloc ?_ ?_ _) | (with_reducible refine Below.setCell ?_ ?_ _) | (with_reducible refine Below.drew ?_) | (simp; done) | (simp; omega))
  have ow0_1_0_8 := Row2.below ow0_1_0_7' hp8 (by omega)
  clear ow0_1_0_7'
  have ow0_1_1_8 := Row2.below ow0_1_1_7' hp8 (by omega)
  clear ow0_1_1_7'
  have og0_2_0_8 := Row2.below og0_2_0_7' hp8 (by omega)
  clear og0_2_0_7'
  have og0_2_1_8 := Row2.below og0_2_1_7' hp8 (by omega)
  clear og0_2_1_7'
  have oh0_6_0_8 := Row2.below oh0_6_0_7' hp8 (by omega)
  clear oh0_6_0_7'
  have oh0_6_1_8 := Row2.below oh0_6_1_7' hp8 (by omega)
  clear oh0_6_1_7'
  have kb1_0_8 := (hp8.cell (p := ⟨w1.heap.size, 0, none⟩) (by show w1.heap.size < _; omega)).trans kb1_0_7'
  clear kb1_0_7'
  have kb1_1_8 := (hp8.cell (p := ⟨w1.heap.size, 1, none⟩) (by show w1.heap.size < _; omega)).trans kb1_1_7'
  clear kb1_1_7'
  have kb1_2_8 := (hp8.cell (p := ⟨w1.heap.size, 2, none⟩) (by show w1.heap.size < _; omega)).trans kb1_2_7'
  clear kb1_2_7'
  have kb1_3_8 := (hp8.cell (p := ⟨w1.heap.size, 3, none⟩) (by show w1.heap.size < _; omega)).trans kb1_3_7'
  clear kb1_3_7'
  have kb1_4_8 := (hp8.cell (p := ⟨w1.heap.size, 4, none⟩) (by show w1.heap.size < _; omega)).trans kb1_4_7'
  clear kb1_4_7'
  have kb1_5_8 := (hp8.cell (p := ⟨w1.heap.size, 5, none⟩) (by show w1.heap.size < _; omega)).trans kb1_5_7'
  clear kb1_5_7'
  have kb1_6_8 := (hp8.cell (p := ⟨w1.heap.size, 6, none⟩) (by show w1.heap.size < _; omega)).trans kb1_6_7'
  clear kb1_6_7'
  have kb1_7_8 := (hp8.cell (p := ⟨w1.heap.size, 7, none⟩) (by show w1.heap.size < _; omega)).trans kb1_7_7'
  clear kb1_7_7'
  have kb2_0_8 := (hp8.cell (p := ⟨w2.heap.size, 0, none⟩) (by show w2.heap.size < _; omega)).trans kb2_0_7'
  clear kb2_0_7'
  have kb2_1_8 := (hp8.cell (p := ⟨w2.heap.size, 1, none⟩) (by show w2.heap.size < _; omega)).trans kb2_1_7'
  clear kb2_1_7'
  have kb2_2_8 := (hp8.cell (p := ⟨w2.heap.size, 2, none⟩) (by show w2.heap.size < _; omega)).trans kb2_2_7'
  clear kb2_2_7'
  have kb2_3_8 := (hp8.cell (p := ⟨w2.heap.size, 3, none⟩) (by show w2.heap.size < _; omega)).trans kb2_3_7'
  clear kb2_3_7'
  have kb2_4_8 := (hp8.cell (p := ⟨w2.heap.size, 4, none⟩) (by show w2.heap.size < _; omega)).trans kb2_4_7'
  clear kb2_4_7'
  have kb2_5_8 := (hp8.cell (p := ⟨w2.heap.size, 5, none⟩) (by show w2.heap.size < _; omega)).trans kb2_5_7'
  clear kb2_5_7'
  have kb2_6_8 := (hp8.cell (p := ⟨w2.heap.size, 6, none⟩) (by show w2.heap.size < _; omega)).trans kb2_6_7'
  clear kb2_6_7'
  have kb2_7_8 := (hp8.cell (p := ⟨w2.heap.size, 7, none⟩) (by show w2.heap.size < _; omega)).trans kb2_7_7'
  clear kb2_7_7'
  have kb3_0_8 := (hp8.cell (p := ⟨w6.heap.size, 0, none⟩) (by show w6.heap.size < _; omega)).trans kb3_0_7'
  clear kb3_0_7'
  have kb3_1_8 := (hp8.cell (p := ⟨w6.heap.size, 1, none⟩) (by show w6.heap.size < _; omega)).trans kb3_1_7'
  clear kb3_1_7'
  have kb3_2_8 := (hp8.cell (p := ⟨w6.heap.size, 2, none⟩) (by show w6.heap.size < _; omega)).trans kb3_2_7'
  clear kb3_2_7'
  have kb3_3_8 := (hp8.cell (p := ⟨w6.heap.size, 3, none⟩) (by show w6.heap.size < _; omega)).trans kb3_3_7'
  clear kb3_3_7'
  have kb3_4_8 := (hp8.cell (p := ⟨w6.heap.size, 4, none⟩) (by show w6.heap.size < _; omega)).trans kb3_4_7'
  clear kb3_4_7'
  have kb3_5_8 := (hp8.cell (p := ⟨w6.heap.size, 5, none⟩) (by show w6.heap.size < _; omega)).trans kb3_5_7'
  clear kb3_5_7'
  have kb3_6_8 := (hp8.cell (p := ⟨w6.heap.size, 6, none⟩) (by show w6.heap.size < _; omega)).trans kb3_6_7'
  clear kb3_6_7'
  have kb3_7_8 := (hp8.cell (p := ⟨w6.heap.size, 7, none⟩) (by show w6.heap.size < _; omega)).trans kb3_7_7'
  clear kb3_7_7'
  have hB8 := hB7'.trans (hp8.mono hB7'.size)
  have hz8 : w7.heap.size ≤ W8.heap.size := hp8.size
  have hl_b1_8 : w1.heap.size < W8.heap.size := by omega
  have hl_b2_8 : w2.heap.size < W8.heap.size := by omega
  have hl_b3_8 : w6.heap.size < W8.heap.size := by omega
  have HW8 := Lib.hid hW8; clear hW8
  refine (heldVillage_2 Ar0_2 cr0_2 Rr0_2 dr0_2 _ _ ((newV 200 100 1)) (1) _ (by omega) _ og0_2_0_8 og0_2_1_8 (by first | omega | (simp; omega))).mono ?_
  rintro e w8 ⟨rfl, hb8⟩
  try simp only [Bk.val, Vg.val]
  have ow0_1_0_8' := Row2.below ow0_1_0_8 hb8 (by omega)
  clear ow0_1_0_8
  have ow0_1_1_8' := Row2.below ow0_1_1_8 hb8 (by omega)
  clear ow0_1_1_8
  have og0_2_0_8' := Row2.below og0_2_0_8 hb8 (by omega)
  clear og0_2_0_8
  have og0_2_1_8' := Row2.below og0_2_1_8 hb8 (by omega)
  clear og0_2_1_8
  have oh0_6_0_8' := Row2.below oh0_6_0_8 hb8 (by omega)
  clear oh0_6_0_8
  have oh0_6_1_8' := Row2.below oh0_6_1_8 hb8 (by omega)
  clear oh0_6_1_8
  have kb1_0_8' := (hb8.cell (p := ⟨w1.heap.size, 0, none⟩) (by show w1.heap.size < _; omega)).trans kb1_0_8
  clear kb1_0_8
  have kb1_1_8' := (hb8.cell (p := ⟨w1.heap.size, 1, none⟩) (by show w1.heap.size < _; omega)).trans kb1_1_8
  clear kb1_1_8
  have kb1_2_8' := (hb8.cell (p := ⟨w1.heap.size, 2, none⟩) (by show w1.heap.size < _; omega)).trans kb1_2_8
  clear kb1_2_8
  have kb1_3_8' := (hb8.cell (p := ⟨w1.heap.size, 3, none⟩) (by show w1.heap.size < _; omega)).trans kb1_3_8
  clear kb1_3_8
  have kb1_4_8' := (hb8.cell (p := ⟨w1.heap.size, 4, none⟩) (by show w1.heap.size < _; omega)).trans kb1_4_8
  clear kb1_4_8
  have kb1_5_8' := (hb8.cell (p := ⟨w1.heap.size, 5, none⟩) (by show w1.heap.size < _; omega)).trans kb1_5_8
  clear kb1_5_8
  have kb1_6_8' := (hb8.cell (p := ⟨w1.heap.size, 6, none⟩) (by show w1.heap.size < _; omega)).trans kb1_6_8
  clear kb1_6_8
  have kb1_7_8' := (hb8.cell (p := ⟨w1.heap.size, 7, none⟩) (by show w1.heap.size < _; omega)).trans kb1_7_8
  clear kb1_7_8
  have kb2_0_8' := (hb8.cell (p := ⟨w2.heap.size, 0, none⟩) (by show w2.heap.size < _; omega)).trans kb2_0_8
  clear kb2_0_8
  have kb2_1_8' := (hb8.cell (p := ⟨w2.heap.size, 1, none⟩) (by show w2.heap.size < _; omega)).trans kb2_1_8
  clear kb2_1_8
  have kb2_2_8' := (hb8.cell (p := ⟨w2.heap.size, 2, none⟩) (by show w2.heap.size < _; omega)).trans kb2_2_8
  clear kb2_2_8
  have kb2_3_8' := (hb8.cell (p := ⟨w2.heap.size, 3, none⟩) (by show w2.heap.size < _; omega)).trans kb2_3_8
  clear kb2_3_8
  have kb2_4_8' := (hb8.cell (p := ⟨w2.heap.size, 4, none⟩) (by show w2.heap.size < _; omega)).trans kb2_4_8
  clear kb2_4_8
  have kb2_5_8' := (hb8.cell (p := ⟨w2.heap.size, 5, none⟩) (by show w2.heap.size < _; omega)).trans kb2_5_8
  clear kb2_5_8
  have kb2_6_8' := (hb8.cell (p := ⟨w2.heap.size, 6, none⟩) (by show w2.heap.size < _; omega)).trans kb2_6_8
  clear kb2_6_8
  have kb2_7_8' := (hb8.cell (p := ⟨w2.heap.size, 7, none⟩) (by show w2.heap.size < _; omega)).trans kb2_7_8
  clear kb2_7_8
  have kb3_0_8' := (hb8.cell (p := ⟨w6.heap.size, 0, none⟩) (by show w6.heap.size < _; omega)).trans kb3_0_8
  clear kb3_0_8
  have kb3_1_8' := (hb8.cell (p := ⟨w6.heap.size, 1, none⟩) (by show w6.heap.size < _; omega)).trans kb3_1_8
  clear kb3_1_8
  have kb3_2_8' := (hb8.cell (p := ⟨w6.heap.size, 2, none⟩) (by show w6.heap.size < _; omega)).trans kb3_2_8
  clear kb3_2_8
  have kb3_3_8' := (hb8.cell (p := ⟨w6.heap.size, 3, none⟩) (by show w6.heap.size < _; omega)).trans kb3_3_8
  clear kb3_3_8
  have kb3_4_8' := (hb8.cell (p := ⟨w6.heap.size, 4, none⟩) (by show w6.heap.size < _; omega)).trans kb3_4_8
  clear kb3_4_8
  have kb3_5_8' := (hb8.cell (p := ⟨w6.heap.size, 5, none⟩) (by show w6.heap.size < _; omega)).trans kb3_5_8
  clear kb3_5_8
  have kb3_6_8' := (hb8.cell (p := ⟨w6.heap.size, 6, none⟩) (by show w6.heap.size < _; omega)).trans kb3_6_8
  clear kb3_6_8
  have kb3_7_8' := (hb8.cell (p := ⟨w6.heap.size, 7, none⟩) (by show w6.heap.size < _; omega)).trans kb3_7_8
  clear kb3_7_8
  have hB8' := hB8.trans (hb8.mono hB8.size)
  have hz8' : W8.heap.size ≤ w8.heap.size := hb8.size
  have hl_b1_8' : w1.heap.size < w8.heap.size := by omega
  have hl_b2_8' : w2.heap.size < w8.heap.size := by omega
  have hl_b3_8' : w6.heap.size < w8.heap.size := by omega
  go_wp2_with fail
  go_ret
  exact ⟨rfl, by first | exact hB8' | (refine hB8'.trans (Below.mono (B := w8.heap.size) ?_ hB8'.size); repeat' (first | (with_reducible exact Below.refl _ _) | (with_reducible refine Below.alloc ?_ ?_ _) | (with_reducible refine Below.setCell ?_ ?_ _) | (with_reducible refine Below.drew ?_) | (simp; done) | (simp; omega)))⟩
set_option maxRecDepth 100000 in
theorem lifted_FnExactSampleVillage (os : Os) (started : os.Started) (H : Type) (enc : TypeId × Value → H) :
    ReturnsInHanded {} Try.checked os 10 .any (Rows.fnExactSampleVillageSpec.pre6 enc Try.prog Try.f10 Rows.fnExactSampleVillageRow.domain false) (Rows.fnExactSampleVillageSpec.post enc Try.prog Try.f10 false true false false) := by
  refine returnsInHanded_of_change (C := Try.checked) own_knob started (by kernel_rfl) Try.func10
    (ChangeSpec.witness6 (enc := enc) (C := Try.checked) false ⟨#[], #[], []⟩ 8 (by kernel_rfl) (by kernel_rfl) (by kernel_rfl) (by kernel_rfl)) ?_
  intro W base args ds gs before hval0 hW hcnd _
  have hval : ∀ (j : Nat) t v, Try.f10.params[j]? = some t → args[j]? = some v → Value.okWide Try.prog W .any base t v := hval0
  have hW' := hW
  obtain ⟨p, q, hA0, hV, rfl, hfz, hnd⟩ := hW
  have hA : DataW.TrodAll enc Try.prog W 0 (fun _ => true) true Try.f10.params.toList args.toList ds p := hA0
  rw [Try.params10] at hA hval
  obtain ⟨hargs, rfl, rfl⟩ := trodAll_nil hA
  obtain rfl : args = #[] := by cases args; simp_all
  obtain ⟨rfl, rfl⟩ := trodVars_none hV
  clear hA0 hval0
  refine (walk_FnExactSampleVillage W ).mono fun e W' ⟨he, bel⟩ => ?_
  subst he
  exact ⟨_, rfl, _, _, _, [], _, [], hW', trodAll_mk1 (shut_bool Try.underlying4 _), trodAll_mk0, rfl, bel.frame _, fun h => by cases h⟩

theorem fnExactSampleVillage_holds : Rows.FnExactSampleVillageSaid :=
  OpenClaim.holds_of_wide 10 Try.f10 rfl rfl rfl rfl rfl rfl rfl ⟨rfl, rfl, rfl, rfl, rfl⟩ rfl rfl rfl rfl rfl (by kernel_rfl) Try.func10 (by kernel_rfl)
    (of_decide_eq_true (by kernel_rfl)) (by unfold Func.isWrapper; rw [if_neg (by decide +kernel)]; exact ⟨rfl, rfl⟩)
    (fun os started H enc _ => lifted_FnExactSampleVillage os started H enc)
end Go.Proofs.Ytfiffondfljkkaa
