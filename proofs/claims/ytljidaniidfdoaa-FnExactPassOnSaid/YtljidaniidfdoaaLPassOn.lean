/- The law FnExactPassOn answers true for every village, every owner and every list of heirs. No conditions. -/
import Derived.Test.YtljidaniidfdoaaVill2
import Derived.Test.YtljidaniidfdoaaVillPass
import Derived.Test.YtljidaniidfdoaaOpenVillage
import Derived.Deep.RegionHeld3
import Derived.Test.YtljidaniidfdoaaTo
namespace Go.Proofs.Ytljidaniidfdoaa
open Go.ChangeShapes Go.WideShapes Go.ChangeAt Go.RowKit
set_option maxRecDepth 20000
set_option maxHeartbeats 6400000 in
theorem walk_FnExactPassOn (w : World) (A0 : Option Addr) (c0 : Nat) (R0 : Option Addr) (d0 : Nat) (v0 : Vg) (h0_0 : RdT w w.heap.size A0 c0 v0.book.evs) (h0_1 : RdT w w.heap.size R0 d0 v0.rights) (a1 : Int) (h1_0 : I64 a1) (A2 : Option Addr) (c2 : Nat) (l2 : List Int) (h2_0 : RdI w w.heap.size A2 c2 l2) :
    Calls Try.prog 5 #[(Vg.val v0 A0 c0 R0 d0), .int .i64 a1, .slice A2 l2.length c2] w fun e w' => e = .returned (.bool true) ∧ Below w.heap.size w w' := by
  by_cases hbig2 : (1048576 : Int) < l2.length
  · unfold Vg.val; go_enter Try.func5, Try.ntmps5
    go_wp2
    go_ret
    exact ⟨rfl, by first | exact Below.refl _ _ | repeat' (first | (with_reducible exact Below.refl _ _) | (with_reducible assumption) | (with_reducible refine Below.alloc ?_ ?_ _) | (with_reducible refine Below.setCell ?_ ?_ _) | (with_reducible refine Below.drew ?_) | (with_reducible refine below_drewN ?_ _) | (refine Below.trans ?_ (Below.mono (by with_reducible assumption) ?_)) | omega | (simp; done) | (simp; omega))⟩
  have hs2 : l2.length ≤ 1048576 := by omega
  by_cases hbig0 : (1048576 : Int) < (v0.book.evs.length + v0.rights.length)
  · unfold Vg.val; go_enter Try.func5, Try.ntmps5
    go_wp2_with fail
    refine (szVillage_big A0 c0 R0 d0 v0 _ _ (by omega) (by omega) (by omega) (by have := h0_0.le; omega) (by have := h0_1.le; omega)).mono ?_
    rintro e w0' ⟨rfl, hb0'⟩
    go_wp2_with fail
    go_ret
    exact ⟨rfl, by repeat' (first | (with_reducible exact Below.refl _ _) | (with_reducible assumption) | (with_reducible refine Below.alloc ?_ ?_ _) | (with_reducible refine Below.setCell ?_ ?_ _) | (with_reducible refine Below.drew ?_) | (with_reducible refine below_drewN ?_ _) | (refine Below.trans ?_ (Below.mono (by with_reducible assumption) ?_)) | omega | (simp; done) | (simp; omega))⟩
  have hs0 : (v0.book.evs.length + v0.rights.length) ≤ 1048576 := by omega
  obtain ⟨r1, hr_1⟩ : ∃ r, r = (vPass v0 a1 l2).2 := ⟨_, rfl⟩
  have HR1 := Lib.hid hr_1; clear hr_1
  have hq1 : (r1 != r1) = false := by simp
  have hsl := vPass_len v0 a1 l2
  have hB0 : Below w.heap.size w w := Below.refl _ _
  unfold Vg.val; go_enter Try.func5, Try.ntmps5
  go_wp2_with fail
  first | refine name_world ?_ | refine name_wp ?_
  intro W1 hW1
  have hp1 : Below w.heap.size w W1 := by rw [hW1]; repeat' (first | (with_reducible exact Below.refl _ _) | (with_reducible refine Below.alloc ?_ ?_ _) | (with_reducible refine Below.setCell ?_ ?_ _) | (with_reducible refine Below.drew ?_) | (simp; done) | (simp; omega))
  have kb1_0_1 : W1.cell? ⟨w.heap.size, 0, none⟩ = some (.int .i64 v0.book.room) := by rw [hW1]; simp [go_sem]
  have kb1_1_1 : W1.cell? ⟨w.heap.size, 1, none⟩ = some (.int .i64 v0.book.start) := by rw [hW1]; simp [go_sem]
  have kb1_2_1 : W1.cell? ⟨w.heap.size, 2, none⟩ = some (.slice A0 v0.book.evs.length c0) := by rw [hW1]; simp [go_sem]
  have kb1_3_1 : W1.cell? ⟨w.heap.size, 3, none⟩ = some (.int .i64 v0.book.level) := by rw [hW1]; simp [go_sem]
  have kb1_4_1 : W1.cell? ⟨w.heap.size, 4, none⟩ = some (.int .i64 v0.book.rained) := by rw [hW1]; simp [go_sem]
  have kb1_5_1 : W1.cell? ⟨w.heap.size, 5, none⟩ = some (.int .i64 v0.book.drunk) := by rw [hW1]; simp [go_sem]
  have kb1_6_1 : W1.cell? ⟨w.heap.size, 6, none⟩ = some (.int .i64 v0.book.lost) := by rw [hW1]; simp [go_sem]
  have kb1_7_1 : W1.cell? ⟨w.heap.size, 7, none⟩ = some (.slice R0 v0.rights.length d0) := by rw [hW1]; simp [go_sem]
  have hl_b1 : w.heap.size < W1.heap.size := by rw [hW1]; first | (simp; done) | (simp; omega)
  have hB1 := hB0.trans (hp1.mono hB0.size)
  have hz1 : w.heap.size ≤ W1.heap.size := hp1.size
  have HW1 := Lib.hid hW1; clear hW1
  refine (szVillage_ok A0 c0 R0 d0 v0 _ _ (by omega) (by omega)).mono ?_
  rintro e w1 ⟨rfl, hb1⟩
  try simp only [Vg.val]
  have kb1_0_1' := (hb1.cell (p := ⟨w.heap.size, 0, none⟩) (by show w.heap.size < _; omega)).trans kb1_0_1
  have kb1_1_1' := (hb1.cell (p := ⟨w.heap.size, 1, none⟩) (by show w.heap.size < _; omega)).trans kb1_1_1
  have kb1_2_1' := (hb1.cell (p := ⟨w.heap.size, 2, none⟩) (by show w.heap.size < _; omega)).trans kb1_2_1
  have kb1_3_1' := (hb1.cell (p := ⟨w.heap.size, 3, none⟩) (by show w.heap.size < _; omega)).trans kb1_3_1
  have kb1_4_1' := (hb1.cell (p := ⟨w.heap.size, 4, none⟩) (by show w.heap.size < _; omega)).trans kb1_4_1
  have kb1_5_1' := (hb1.cell (p := ⟨w.heap.size, 5, none⟩) (by show w.heap.size < _; omega)).trans kb1_5_1
  have kb1_6_1' := (hb1.cell (p := ⟨w.heap.size, 6, none⟩) (by show w.heap.size < _; omega)).trans kb1_6_1
  have kb1_7_1' := (hb1.cell (p := ⟨w.heap.size, 7, none⟩) (by show w.heap.size < _; omega)).trans kb1_7_1
  have hB1' := hB1.trans (hb1.mono hB1.size)
  have hz1' : W1.heap.size ≤ w1.heap.size := hb1.size
  have hl_b1_1' : w.heap.size < w1.heap.size := by omega
  clear kb1_0_1 kb1_1_1 kb1_2_1 kb1_3_1 kb1_4_1 kb1_5_1 kb1_6_1 kb1_7_1
  go_wp2_with fail
  first | refine name_world ?_ | refine name_wp ?_
  intro W2 hW2
  have hp2 : Below w1.heap.size w1 W2 := by rw [hW2]; repeat' (first | (with_reducible exact Below.refl _ _) | (with_reducible refine Below.alloc ?_ ?_ _) | (with_reducible refine Below.setCell ?_ ?_ _) | (with_reducible refine Below.drew ?_) | (simp; done) | (simp; omega))
  have kb1_0_2 := (hp2.cell (p := ⟨w.heap.size, 0, none⟩) (by show w.heap.size < _; omega)).trans kb1_0_1'
  have kb1_1_2 := (hp2.cell (p := ⟨w.heap.size, 1, none⟩) (by show w.heap.size < _; omega)).trans kb1_1_1'
  have kb1_2_2 := (hp2.cell (p := ⟨w.heap.size, 2, none⟩) (by show w.heap.size < _; omega)).trans kb1_2_1'
  have kb1_3_2 := (hp2.cell (p := ⟨w.heap.size, 3, none⟩) (by show w.heap.size < _; omega)).trans kb1_3_1'
  have kb1_4_2 := (hp2.cell (p := ⟨w.heap.size, 4, none⟩) (by show w.heap.size < _; omega)).trans kb1_4_1'
  have kb1_5_2 := (hp2.cell (p := ⟨w.heap.size, 5, none⟩) (by show w.heap.size < _; omega)).trans kb1_5_1'
  have kb1_6_2 := (hp2.cell (p := ⟨w.heap.size, 6, none⟩) (by show w.heap.size < _; omega)).trans kb1_6_1'
  have kb1_7_2 := (hp2.cell (p := ⟨w.heap.size, 7, none⟩) (by show w.heap.size < _; omega)).trans kb1_7_1'
  have hB2 := hB1'.trans (hp2.mono hB1'.size)
  have hz2 : w1.heap.size ≤ W2.heap.size := hp2.size
  have hl_b1_2 : w.heap.size < W2.heap.size := by omega
  have HW2 := Lib.hid hW2; clear hW2
  clear kb1_0_1' kb1_1_1' kb1_2_1' kb1_3_1' kb1_4_1' kb1_5_1' kb1_6_1' kb1_7_1'
  refine (toVillage_any A0 c0 R0 d0 v0 _ (Rd.later h0_0 hB2) (Rd.later h0_1 hB2) hs0).mono ?_
  rintro e w2 ⟨A'2, c'2, R'2, d'2, rfl, ho0_2, ho1_2, hb2⟩
  try simp only [Vg.val]
  have kb1_0_2' := (hb2.cell (p := ⟨w.heap.size, 0, none⟩) (by show w.heap.size < _; omega)).trans kb1_0_2
  have kb1_1_2' := (hb2.cell (p := ⟨w.heap.size, 1, none⟩) (by show w.heap.size < _; omega)).trans kb1_1_2
  have kb1_2_2' := (hb2.cell (p := ⟨w.heap.size, 2, none⟩) (by show w.heap.size < _; omega)).trans kb1_2_2
  have kb1_3_2' := (hb2.cell (p := ⟨w.heap.size, 3, none⟩) (by show w.heap.size < _; omega)).trans kb1_3_2
  have kb1_4_2' := (hb2.cell (p := ⟨w.heap.size, 4, none⟩) (by show w.heap.size < _; omega)).trans kb1_4_2
  have kb1_5_2' := (hb2.cell (p := ⟨w.heap.size, 5, none⟩) (by show w.heap.size < _; omega)).trans kb1_5_2
  have kb1_6_2' := (hb2.cell (p := ⟨w.heap.size, 6, none⟩) (by show w.heap.size < _; omega)).trans kb1_6_2
  have kb1_7_2' := (hb2.cell (p := ⟨w.heap.size, 7, none⟩) (by show w.heap.size < _; omega)).trans kb1_7_2
  have hB2' := hB2.trans (hb2.mono hB2.size)
  have hz2' : W2.heap.size ≤ w2.heap.size := hb2.size
  have hl_b1_2' : w.heap.size < w2.heap.size := by omega
  have ot2_0_n := Row2.born ho0_2
  have ot2_1_n := Row2.born ho1_2
  clear kb1_0_2 kb1_1_2 kb1_2_2 kb1_3_2 kb1_4_2 kb1_5_2 kb1_6_2 kb1_7_2 ho0_2 ho1_2
  go_wp2_with fail
  first | refine name_world ?_ | refine name_wp ?_
  intro W3 hW3
  have hp3 : Below w2.heap.size w2 W3 := by rw [hW3]; repeat' (first | (with_reducible exact Below.refl _ _) | (with_reducible refine Below.alloc ?_ ?_ _) | (with_reducible refine Below.setCell ?_ ?_ _) | (with_reducible refine Below.drew ?_) | (simp; done) | (simp; omega))
  have ot2_0_3 := Row2.below ot2_0_n hp3 (by omega)
  have ot2_1_3 := Row2.below ot2_1_n hp3 (by omega)
  have kb1_0_3 := (hp3.cell (p := ⟨w.heap.size, 0, none⟩) (by show w.heap.size < _; omega)).trans kb1_0_2'
  have kb1_1_3 := (hp3.cell (p := ⟨w.heap.size, 1, none⟩) (by show w.heap.size < _; omega)).trans kb1_1_2'
  have kb1_2_3 := (hp3.cell (p := ⟨w.heap.size, 2, none⟩) (by show w.heap.size < _; omega)).trans kb1_2_2'
  have kb1_3_3 := (hp3.cell (p := ⟨w.heap.size, 3, none⟩) (by show w.heap.size < _; omega)).trans kb1_3_2'
  have kb1_4_3 := (hp3.cell (p := ⟨w.heap.size, 4, none⟩) (by show w.heap.size < _; omega)).trans kb1_4_2'
  have kb1_5_3 := (hp3.cell (p := ⟨w.heap.size, 5, none⟩) (by show w.heap.size < _; omega)).trans kb1_5_2'
  have kb1_6_3 := (hp3.cell (p := ⟨w.heap.size, 6, none⟩) (by show w.heap.size < _; omega)).trans kb1_6_2'
  have kb1_7_3 := (hp3.cell (p := ⟨w.heap.size, 7, none⟩) (by show w.heap.size < _; omega)).trans kb1_7_2'
  have hB3 := hB2'.trans (hp3.mono hB2'.size)
  have hz3 : w2.heap.size ≤ W3.heap.size := hp3.size
  have hl_b1_3 : w.heap.size < W3.heap.size := by omega
  have HW3 := Lib.hid hW3; clear hW3
  clear ot2_0_n ot2_1_n kb1_0_2' kb1_1_2' kb1_2_2' kb1_3_2' kb1_4_2' kb1_5_2' kb1_6_2' kb1_7_2'
  refine (toIntS_any A2 c2 l2 _ (Rd.later h2_0 hB3) hs2).mono ?_
  rintro e w3 ⟨A'3, c'3, rfl, ho0_3, hb3⟩
  try simp only [Vg.val]
  have ot2_0_3' := Row2.below ot2_0_3 hb3 (by omega)
  have ot2_1_3' := Row2.below ot2_1_3 hb3 (by omega)
  have kb1_0_3' := (hb3.cell (p := ⟨w.heap.size, 0, none⟩) (by show w.heap.size < _; omega)).trans kb1_0_3
  have kb1_1_3' := (hb3.cell (p := ⟨w.heap.size, 1, none⟩) (by show w.heap.size < _; omega)).trans kb1_1_3
  have kb1_2_3' := (hb3.cell (p := ⟨w.heap.size, 2, none⟩) (by show w.heap.size < _; omega)).trans kb1_2_3
  have kb1_3_3' := (hb3.cell (p := ⟨w.heap.size, 3, none⟩) (by show w.heap.size < _; omega)).trans kb1_3_3
  have kb1_4_3' := (hb3.cell (p := ⟨w.heap.size, 4, none⟩) (by show w.heap.size < _; omega)).trans kb1_4_3
  have kb1_5_3' := (hb3.cell (p := ⟨w.heap.size, 5, none⟩) (by show w.heap.size < _; omega)).trans kb1_5_3
  have kb1_6_3' := (hb3.cell (p := ⟨w.heap.size, 6, none⟩) (by show w.heap.size < _; omega)).trans kb1_6_3
  have kb1_7_3' := (hb3.cell (p := ⟨w.heap.size, 7, none⟩) (by show w.heap.size < _; omega)).trans kb1_7_3
  have hB3' := hB3.trans (hb3.mono hB3.size)
  have hz3' : W3.heap.size ≤ w3.heap.size := hb3.size
  have hl_b1_3' : w.heap.size < w3.heap.size := by omega
  have ot3_0_n := Row2.born ho0_3
  clear ot2_0_3 ot2_1_3 kb1_0_3 kb1_1_3 kb1_2_3 kb1_3_3 kb1_4_3 kb1_5_3 kb1_6_3 kb1_7_3 ho0_3
  go_wp2_with fail
  first | refine name_world ?_ | refine name_wp ?_
  intro W4 hW4
  have hp4 : Below w3.heap.size w3 W4 := by rw [hW4]; repeat' (first | (with_reducible exact Below.refl _ _) | (with_reducible refine Below.alloc ?_ ?_ _) | (with_reducible refine Below.setCell ?_ ?_ _) | (with_reducible refine Below.drew ?_) | (simp; done) | (simp; omega))
  have ot2_0_4 := Row2.below ot2_0_3' hp4 (by omega)
  have ot2_1_4 := Row2.below ot2_1_3' hp4 (by omega)
  have ot3_0_4 := Row2.below ot3_0_n hp4 (by omega)
  have kb1_0_4 := (hp4.cell (p := ⟨w.heap.size, 0, none⟩) (by show w.heap.size < _; omega)).trans kb1_0_3'
  have kb1_1_4 := (hp4.cell (p := ⟨w.heap.size, 1, none⟩) (by show w.heap.size < _; omega)).trans kb1_1_3'
  have kb1_2_4 := (hp4.cell (p := ⟨w.heap.size, 2, none⟩) (by show w.heap.size < _; omega)).trans kb1_2_3'
  have kb1_3_4 := (hp4.cell (p := ⟨w.heap.size, 3, none⟩) (by show w.heap.size < _; omega)).trans kb1_3_3'
  have kb1_4_4 := (hp4.cell (p := ⟨w.heap.size, 4, none⟩) (by show w.heap.size < _; omega)).trans kb1_4_3'
  have kb1_5_4 := (hp4.cell (p := ⟨w.heap.size, 5, none⟩) (by show w.heap.size < _; omega)).trans kb1_5_3'
  have kb1_6_4 := (hp4.cell (p := ⟨w.heap.size, 6, none⟩) (by show w.heap.size < _; omega)).trans kb1_6_3'
  have kb1_7_4 := (hp4.cell (p := ⟨w.heap.size, 7, none⟩) (by show w.heap.size < _; omega)).trans kb1_7_3'
  have hB4 := hB3'.trans (hp4.mono hB3'.size)
  have hz4 : w3.heap.size ≤ W4.heap.size := hp4.size
  have hl_b1_4 : w.heap.size < W4.heap.size := by omega
  have HW4 := Lib.hid hW4; clear hW4
  clear ot2_0_3' ot2_1_3' ot3_0_n kb1_0_3' kb1_1_3' kb1_2_3' kb1_3_3' kb1_4_3' kb1_5_3' kb1_6_3' kb1_7_3'
  refine (PassOnS_any A'2 c'2 R'2 d'2 v0 a1 A'3 c'3 l2 _ ot2_0_4.rd ot2_1_4.rd ot3_0_4.rd (by omega)).mono ?_
  rintro e w4 ⟨Ar0_4, cr0_4, Rr0_4, dr0_4, rfl, ho0_4, ho1_4, hb4⟩
  try simp only [Vg.val]
  have ot2_0_4' := Row2.below ot2_0_4 hb4 (by omega)
  have ot2_1_4' := Row2.below ot2_1_4 hb4 (by omega)
  have ot3_0_4' := Row2.below ot3_0_4 hb4 (by omega)
  have kb1_0_4' := (hb4.cell (p := ⟨w.heap.size, 0, none⟩) (by show w.heap.size < _; omega)).trans kb1_0_4
  have kb1_1_4' := (hb4.cell (p := ⟨w.heap.size, 1, none⟩) (by show w.heap.size < _; omega)).trans kb1_1_4
  have kb1_2_4' := (hb4.cell (p := ⟨w.heap.size, 2, none⟩) (by show w.heap.size < _; omega)).trans kb1_2_4
  have kb1_3_4' := (hb4.cell (p := ⟨w.heap.size, 3, none⟩) (by show w.heap.size < _; omega)).trans kb1_3_4
  have kb1_4_4' := (hb4.cell (p := ⟨w.heap.size, 4, none⟩) (by show w.heap.size < _; omega)).trans kb1_4_4
  have kb1_5_4' := (hb4.cell (p := ⟨w.heap.size, 5, none⟩) (by show w.heap.size < _; omega)).trans kb1_5_4
  have kb1_6_4' := (hb4.cell (p := ⟨w.heap.size, 6, none⟩) (by show w.heap.size < _; omega)).trans kb1_6_4
  have kb1_7_4' := (hb4.cell (p := ⟨w.heap.size, 7, none⟩) (by show w.heap.size < _; omega)).trans kb1_7_4
  have hB4' := hB4.trans (hb4.mono hB4.size)
  have hz4' : W4.heap.size ≤ w4.heap.size := hb4.size
  have hl_b1_4' : w.heap.size < w4.heap.size := by omega
  clear ot2_0_4 ot2_1_4 ot3_0_4 kb1_0_4 kb1_1_4 kb1_2_4 kb1_3_4 kb1_4_4 kb1_5_4 kb1_6_4 kb1_7_4
  rw [← HR1.out]
  have ow0_4_0_n := Row2.born ho0_4
  have ow0_4_1_n := Row2.born ho1_4
  clear ho0_4 ho1_4
  go_wp2_with fail
  first | refine name_world ?_ | refine name_wp ?_
  intro W5 hW5
  have hp5 : Below w4.heap.size w4 W5 := by rw [hW5]; repeat' (first | (with_reducible exact Below.refl _ _) | (with_reducible refine Below.alloc ?_ ?_ _) | (with_reducible refine Below.setCell ?_ ?_ _) | (with_reducible refine Below.drew ?_) | (simp; done) | (simp; omega))
  have kb2_0_5 : W5.cell? ⟨w4.heap.size, 0, none⟩ = some (.int .i64 (vPass v0 a1 l2).1.book.room) := by rw [hW5]; simp [go_sem]
  have kb2_1_5 : W5.cell? ⟨w4.heap.size, 1, none⟩ = some (.int .i64 (vPass v0 a1 l2).1.book.start) := by rw [hW5]; simp [go_sem]
  have kb2_2_5 : W5.cell? ⟨w4.heap.size, 2, none⟩ = some (.slice Ar0_4 (vPass v0 a1 l2).1.book.evs.length cr0_4) := by rw [hW5]; simp [go_sem]
  have kb2_3_5 : W5.cell? ⟨w4.heap.size, 3, none⟩ = some (.int .i64 (vPass v0 a1 l2).1.book.level) := by rw [hW5]; simp [go_sem]
  have kb2_4_5 : W5.cell? ⟨w4.heap.size, 4, none⟩ = some (.int .i64 (vPass v0 a1 l2).1.book.rained) := by rw [hW5]; simp [go_sem]
  have kb2_5_5 : W5.cell? ⟨w4.heap.size, 5, none⟩ = some (.int .i64 (vPass v0 a1 l2).1.book.drunk) := by rw [hW5]; simp [go_sem]
  have kb2_6_5 : W5.cell? ⟨w4.heap.size, 6, none⟩ = some (.int .i64 (vPass v0 a1 l2).1.book.lost) := by rw [hW5]; simp [go_sem]
  have kb2_7_5 : W5.cell? ⟨w4.heap.size, 7, none⟩ = some (.slice Rr0_4 (vPass v0 a1 l2).1.rights.length dr0_4) := by rw [hW5]; simp [go_sem]
  have hl_b2 : w4.heap.size < W5.heap.size := by rw [hW5]; first | (simp; done) | (simp; omega)
  have ow0_4_0_5 := Row2.below ow0_4_0_n hp5 (by omega)
  have ow0_4_1_5 := Row2.below ow0_4_1_n hp5 (by omega)
  have kb1_0_5 := (hp5.cell (p := ⟨w.heap.size, 0, none⟩) (by show w.heap.size < _; omega)).trans kb1_0_4'
  have kb1_1_5 := (hp5.cell (p := ⟨w.heap.size, 1, none⟩) (by show w.heap.size < _; omega)).trans kb1_1_4'
  have kb1_2_5 := (hp5.cell (p := ⟨w.heap.size, 2, none⟩) (by show w.heap.size < _; omega)).trans kb1_2_4'
  have kb1_3_5 := (hp5.cell (p := ⟨w.heap.size, 3, none⟩) (by show w.heap.size < _; omega)).trans kb1_3_4'
  have kb1_4_5 := (hp5.cell (p := ⟨w.heap.size, 4, none⟩) (by show w.heap.size < _; omega)).trans kb1_4_4'
  have kb1_5_5 := (hp5.cell (p := ⟨w.heap.size, 5, none⟩) (by show w.heap.size < _; omega)).trans kb1_5_4'
  have kb1_6_5 := (hp5.cell (p := ⟨w.heap.size, 6, none⟩) (by show w.heap.size < _; omega)).trans kb1_6_4'
  have kb1_7_5 := (hp5.cell (p := ⟨w.heap.size, 7, none⟩) (by show w.heap.size < _; omega)).trans kb1_7_4'
  have hB5 := hB4'.trans (hp5.mono hB4'.size)
  have hz5 : w4.heap.size ≤ W5.heap.size := hp5.size
  have hl_b1_5 : w.heap.size < W5.heap.size := by omega
  have HW5 := Lib.hid hW5; clear hW5
  clear ow0_4_0_n ow0_4_1_n kb1_0_4' kb1_1_4' kb1_2_4' kb1_3_4' kb1_4_4' kb1_5_4' kb1_6_4' kb1_7_4'
  refine (toVillage_any A0 c0 R0 d0 v0 _ (Rd.later h0_0 hB5) (Rd.later h0_1 hB5) hs0).mono ?_
  rintro e w5 ⟨A'5, c'5, R'5, d'5, rfl, ho0_5, ho1_5, hb5⟩
  try simp only [Vg.val]
  have ow0_4_0_5' := Row2.below ow0_4_0_5 hb5 (by omega)
  have ow0_4_1_5' := Row2.below ow0_4_1_5 hb5 (by omega)
  have kb1_0_5' := (hb5.cell (p := ⟨w.heap.size, 0, none⟩) (by show w.heap.size < _; omega)).trans kb1_0_5
  have kb1_1_5' := (hb5.cell (p := ⟨w.heap.size, 1, none⟩) (by show w.heap.size < _; omega)).trans kb1_1_5
  have kb1_2_5' := (hb5.cell (p := ⟨w.heap.size, 2, none⟩) (by show w.heap.size < _; omega)).trans kb1_2_5
  have kb1_3_5' := (hb5.cell (p := ⟨w.heap.size, 3, none⟩) (by show w.heap.size < _; omega)).trans kb1_3_5
  have kb1_4_5' := (hb5.cell (p := ⟨w.heap.size, 4, none⟩) (by show w.heap.size < _; omega)).trans kb1_4_5
  have kb1_5_5' := (hb5.cell (p := ⟨w.heap.size, 5, none⟩) (by show w.heap.size < _; omega)).trans kb1_5_5
  have kb1_6_5' := (hb5.cell (p := ⟨w.heap.size, 6, none⟩) (by show w.heap.size < _; omega)).trans kb1_6_5
  have kb1_7_5' := (hb5.cell (p := ⟨w.heap.size, 7, none⟩) (by show w.heap.size < _; omega)).trans kb1_7_5
  have kb2_0_5' := (hb5.cell (p := ⟨w4.heap.size, 0, none⟩) (by show w4.heap.size < _; omega)).trans kb2_0_5
  have kb2_1_5' := (hb5.cell (p := ⟨w4.heap.size, 1, none⟩) (by show w4.heap.size < _; omega)).trans kb2_1_5
  have kb2_2_5' := (hb5.cell (p := ⟨w4.heap.size, 2, none⟩) (by show w4.heap.size < _; omega)).trans kb2_2_5
  have kb2_3_5' := (hb5.cell (p := ⟨w4.heap.size, 3, none⟩) (by show w4.heap.size < _; omega)).trans kb2_3_5
  have kb2_4_5' := (hb5.cell (p := ⟨w4.heap.size, 4, none⟩) (by show w4.heap.size < _; omega)).trans kb2_4_5
  have kb2_5_5' := (hb5.cell (p := ⟨w4.heap.size, 5, none⟩) (by show w4.heap.size < _; omega)).trans kb2_5_5
  have kb2_6_5' := (hb5.cell (p := ⟨w4.heap.size, 6, none⟩) (by show w4.heap.size < _; omega)).trans kb2_6_5
  have kb2_7_5' := (hb5.cell (p := ⟨w4.heap.size, 7, none⟩) (by show w4.heap.size < _; omega)).trans kb2_7_5
  have hB5' := hB5.trans (hb5.mono hB5.size)
  have hz5' : W5.heap.size ≤ w5.heap.size := hb5.size
  have hl_b1_5' : w.heap.size < w5.heap.size := by omega
  have hl_b2_5' : w4.heap.size < w5.heap.size := by omega
  have ot5_0_n := Row2.born ho0_5
  have ot5_1_n := Row2.born ho1_5
  clear ow0_4_0_5 ow0_4_1_5 kb1_0_5 kb1_1_5 kb1_2_5 kb1_3_5 kb1_4_5 kb1_5_5 kb1_6_5 kb1_7_5 kb2_0_5 kb2_1_5 kb2_2_5 kb2_3_5 kb2_4_5 kb2_5_5 kb2_6_5 kb2_7_5 ho0_5 ho1_5
  go_wp2_with fail
  first | refine name_world ?_ | refine name_wp ?_
  intro W6 hW6
  have hp6 : Below w5.heap.size w5 W6 := by rw [hW6]; repeat' (first | (with_reducible exact Below.refl _ _) | (with_reducible refine Below.alloc ?_ ?_ _) | (with_reducible refine Below.setCell ?_ ?_ _) | (with_reducible refine Below.drew ?_) | (simp; done) | (simp; omega))
  have kb3_0_6 : W6.cell? ⟨w5.heap.size, 0, none⟩ = some (.int .i64 v0.book.room) := by rw [hW6]; simp [go_sem]
  have kb3_1_6 : W6.cell? ⟨w5.heap.size, 1, none⟩ = some (.int .i64 v0.book.start) := by rw [hW6]; simp [go_sem]
  have kb3_2_6 : W6.cell? ⟨w5.heap.size, 2, none⟩ = some (.slice A'5 v0.book.evs.length c'5) := by rw [hW6]; simp [go_sem]
  have kb3_3_6 : W6.cell? ⟨w5.heap.size, 3, none⟩ = some (.int .i64 v0.book.level) := by rw [hW6]; simp [go_sem]
  have kb3_4_6 : W6.cell? ⟨w5.heap.size, 4, none⟩ = some (.int .i64 v0.book.rained) := by rw [hW6]; simp [go_sem]
  have kb3_5_6 : W6.cell? ⟨w5.heap.size, 5, none⟩ = some (.int .i64 v0.book.drunk) := by rw [hW6]; simp [go_sem]
  have kb3_6_6 : W6.cell? ⟨w5.heap.size, 6, none⟩ = some (.int .i64 v0.book.lost) := by rw [hW6]; simp [go_sem]
  have kb3_7_6 : W6.cell? ⟨w5.heap.size, 7, none⟩ = some (.slice R'5 v0.rights.length d'5) := by rw [hW6]; simp [go_sem]
  have hl_b3 : w5.heap.size < W6.heap.size := by rw [hW6]; first | (simp; done) | (simp; omega)
  have ow0_4_0_6 := Row2.below ow0_4_0_5' hp6 (by omega)
  have ow0_4_1_6 := Row2.below ow0_4_1_5' hp6 (by omega)
  have ot5_0_6 := Row2.below ot5_0_n hp6 (by omega)
  have ot5_1_6 := Row2.below ot5_1_n hp6 (by omega)
  have kb1_0_6 := (hp6.cell (p := ⟨w.heap.size, 0, none⟩) (by show w.heap.size < _; omega)).trans kb1_0_5'
  have kb1_1_6 := (hp6.cell (p := ⟨w.heap.size, 1, none⟩) (by show w.heap.size < _; omega)).trans kb1_1_5'
  have kb1_2_6 := (hp6.cell (p := ⟨w.heap.size, 2, none⟩) (by show w.heap.size < _; omega)).trans kb1_2_5'
  have kb1_3_6 := (hp6.cell (p := ⟨w.heap.size, 3, none⟩) (by show w.heap.size < _; omega)).trans kb1_3_5'
  have kb1_4_6 := (hp6.cell (p := ⟨w.heap.size, 4, none⟩) (by show w.heap.size < _; omega)).trans kb1_4_5'
  have kb1_5_6 := (hp6.cell (p := ⟨w.heap.size, 5, none⟩) (by show w.heap.size < _; omega)).trans kb1_5_5'
  have kb1_6_6 := (hp6.cell (p := ⟨w.heap.size, 6, none⟩) (by show w.heap.size < _; omega)).trans kb1_6_5'
  have kb1_7_6 := (hp6.cell (p := ⟨w.heap.size, 7, none⟩) (by show w.heap.size < _; omega)).trans kb1_7_5'
  have kb2_0_6 := (hp6.cell (p := ⟨w4.heap.size, 0, none⟩) (by show w4.heap.size < _; omega)).trans kb2_0_5'
  have kb2_1_6 := (hp6.cell (p := ⟨w4.heap.size, 1, none⟩) (by show w4.heap.size < _; omega)).trans kb2_1_5'
  have kb2_2_6 := (hp6.cell (p := ⟨w4.heap.size, 2, none⟩) (by show w4.heap.size < _; omega)).trans kb2_2_5'
  have kb2_3_6 := (hp6.cell (p := ⟨w4.heap.size, 3, none⟩) (by show w4.heap.size < _; omega)).trans kb2_3_5'
  have kb2_4_6 := (hp6.cell (p := ⟨w4.heap.size, 4, none⟩) (by show w4.heap.size < _; omega)).trans kb2_4_5'
  have kb2_5_6 := (hp6.cell (p := ⟨w4.heap.size, 5, none⟩) (by show w4.heap.size < _; omega)).trans kb2_5_5'
  have kb2_6_6 := (hp6.cell (p := ⟨w4.heap.size, 6, none⟩) (by show w4.heap.size < _; omega)).trans kb2_6_5'
  have kb2_7_6 := (hp6.cell (p := ⟨w4.heap.size, 7, none⟩) (by show w4.heap.size < _; omega)).trans kb2_7_5'
  have hB6 := hB5'.trans (hp6.mono hB5'.size)
  have hz6 : w5.heap.size ≤ W6.heap.size := hp6.size
  have hl_b1_6 : w.heap.size < W6.heap.size := by omega
  have hl_b2_6 : w4.heap.size < W6.heap.size := by omega
  have HW6 := Lib.hid hW6; clear hW6
  clear ow0_4_0_5' ow0_4_1_5' ot5_0_n ot5_1_n kb1_0_5' kb1_1_5' kb1_2_5' kb1_3_5' kb1_4_5' kb1_5_5' kb1_6_5' kb1_7_5' kb2_0_5' kb2_1_5' kb2_2_5' kb2_3_5' kb2_4_5' kb2_5_5' kb2_6_5' kb2_7_5'
  refine (toIntS_any A2 c2 l2 _ (Rd.later h2_0 hB6) hs2).mono ?_
  rintro e w6 ⟨A'6, c'6, rfl, ho0_6, hb6⟩
  try simp only [Vg.val]
  have ow0_4_0_6' := Row2.below ow0_4_0_6 hb6 (by omega)
  have ow0_4_1_6' := Row2.below ow0_4_1_6 hb6 (by omega)
  have ot5_0_6' := Row2.below ot5_0_6 hb6 (by omega)
  have ot5_1_6' := Row2.below ot5_1_6 hb6 (by omega)
  have kb1_0_6' := (hb6.cell (p := ⟨w.heap.size, 0, none⟩) (by show w.heap.size < _; omega)).trans kb1_0_6
  have kb1_1_6' := (hb6.cell (p := ⟨w.heap.size, 1, none⟩) (by show w.heap.size < _; omega)).trans kb1_1_6
  have kb1_2_6' := (hb6.cell (p := ⟨w.heap.size, 2, none⟩) (by show w.heap.size < _; omega)).trans kb1_2_6
  have kb1_3_6' := (hb6.cell (p := ⟨w.heap.size, 3, none⟩) (by show w.heap.size < _; omega)).trans kb1_3_6
  have kb1_4_6' := (hb6.cell (p := ⟨w.heap.size, 4, none⟩) (by show w.heap.size < _; omega)).trans kb1_4_6
  have kb1_5_6' := (hb6.cell (p := ⟨w.heap.size, 5, none⟩) (by show w.heap.size < _; omega)).trans kb1_5_6
  have kb1_6_6' := (hb6.cell (p := ⟨w.heap.size, 6, none⟩) (by show w.heap.size < _; omega)).trans kb1_6_6
  have kb1_7_6' := (hb6.cell (p := ⟨w.heap.size, 7, none⟩) (by show w.heap.size < _; omega)).trans kb1_7_6
  have kb2_0_6' := (hb6.cell (p := ⟨w4.heap.size, 0, none⟩) (by show w4.heap.size < _; omega)).trans kb2_0_6
  have kb2_1_6' := (hb6.cell (p := ⟨w4.heap.size, 1, none⟩) (by show w4.heap.size < _; omega)).trans kb2_1_6
  have kb2_2_6' := (hb6.cell (p := ⟨w4.heap.size, 2, none⟩) (by show w4.heap.size < _; omega)).trans kb2_2_6
  have kb2_3_6' := (hb6.cell (p := ⟨w4.heap.size, 3, none⟩) (by show w4.heap.size < _; omega)).trans kb2_3_6
  have kb2_4_6' := (hb6.cell (p := ⟨w4.heap.size, 4, none⟩) (by show w4.heap.size < _; omega)).trans kb2_4_6
  have kb2_5_6' := (hb6.cell (p := ⟨w4.heap.size, 5, none⟩) (by show w4.heap.size < _; omega)).trans kb2_5_6
  have kb2_6_6' := (hb6.cell (p := ⟨w4.heap.size, 6, none⟩) (by show w4.heap.size < _; omega)).trans kb2_6_6
  have kb2_7_6' := (hb6.cell (p := ⟨w4.heap.size, 7, none⟩) (by show w4.heap.size < _; omega)).trans kb2_7_6
  have kb3_0_6' := (hb6.cell (p := ⟨w5.heap.size, 0, none⟩) (by show w5.heap.size < _; omega)).trans kb3_0_6
  have kb3_1_6' := (hb6.cell (p := ⟨w5.heap.size, 1, none⟩) (by show w5.heap.size < _; omega)).trans kb3_1_6
  have kb3_2_6' := (hb6.cell (p := ⟨w5.heap.size, 2, none⟩) (by show w5.heap.size < _; omega)).trans kb3_2_6
  have kb3_3_6' := (hb6.cell (p := ⟨w5.heap.size, 3, none⟩) (by show w5.heap.size < _; omega)).trans kb3_3_6
  have kb3_4_6' := (hb6.cell (p := ⟨w5.heap.size, 4, none⟩) (by show w5.heap.size < _; omega)).trans kb3_4_6
  have kb3_5_6' := (hb6.cell (p := ⟨w5.heap.size, 5, none⟩) (by show w5.heap.size < _; omega)).trans kb3_5_6
  have kb3_6_6' := (hb6.cell (p := ⟨w5.heap.size, 6, none⟩) (by show w5.heap.size < _; omega)).trans kb3_6_6
  have kb3_7_6' := (hb6.cell (p := ⟨w5.heap.size, 7, none⟩) (by show w5.heap.size < _; omega)).trans kb3_7_6
  have hB6' := hB6.trans (hb6.mono hB6.size)
  have hz6' : W6.heap.size ≤ w6.heap.size := hb6.size
  have hl_b1_6' : w.heap.size < w6.heap.size := by omega
  have hl_b2_6' : w4.heap.size < w6.heap.size := by omega
  have hl_b3_6' : w5.heap.size < w6.heap.size := by omega
  have ot6_0_n := Row2.born ho0_6
  clear ow0_4_0_6 ow0_4_1_6 ot5_0_6 ot5_1_6 kb1_0_6 kb1_1_6 kb1_2_6 kb1_3_6 kb1_4_6 kb1_5_6 kb1_6_6 kb1_7_6 kb2_0_6 kb2_1_6 kb2_2_6 kb2_3_6 kb2_4_6 kb2_5_6 kb2_6_6 kb2_7_6 kb3_0_6 kb3_1_6 kb3_2_6 kb3_3_6 kb3_4_6 kb3_5_6 kb3_6_6 kb3_7_6 ho0_6
  go_wp2_with fail
  first | refine name_world ?_ | refine name_wp ?_
  intro W7 hW7
  have hp7 : Below w6.heap.size w6 W7 := by rw [hW7]; repeat' (first | (with_reducible exact Below.refl _ _) | (with_reducible refine Below.alloc ?_ ?_ _) | (with_reducible refine Below.setCell ?_ ?_ _) | (with_reducible refine Below.drew ?_) | (simp; done) | (simp; omega))
  have ow0_4_0_7 := Row2.below ow0_4_0_6' hp7 (by omega)
  have ow0_4_1_7 := Row2.below ow0_4_1_6' hp7 (by omega)
  have ot5_0_7 := Row2.below ot5_0_6' hp7 (by omega)
  have ot5_1_7 := Row2.below ot5_1_6' hp7 (by omega)
  have ot6_0_7 := Row2.below ot6_0_n hp7 (by omega)
  have kb1_0_7 := (hp7.cell (p := ⟨w.heap.size, 0, none⟩) (by show w.heap.size < _; omega)).trans kb1_0_6'
  have kb1_1_7 := (hp7.cell (p := ⟨w.heap.size, 1, none⟩) (by show w.heap.size < _; omega)).trans kb1_1_6'
  have kb1_2_7 := (hp7.cell (p := ⟨w.heap.size, 2, none⟩) (by show w.heap.size < _; omega)).trans kb1_2_6'
  have kb1_3_7 := (hp7.cell (p := ⟨w.heap.size, 3, none⟩) (by show w.heap.size < _; omega)).trans kb1_3_6'
  have kb1_4_7 := (hp7.cell (p := ⟨w.heap.size, 4, none⟩) (by show w.heap.size < _; omega)).trans kb1_4_6'
  have kb1_5_7 := (hp7.cell (p := ⟨w.heap.size, 5, none⟩) (by show w.heap.size < _; omega)).trans kb1_5_6'
  have kb1_6_7 := (hp7.cell (p := ⟨w.heap.size, 6, none⟩) (by show w.heap.size < _; omega)).trans kb1_6_6'
  have kb1_7_7 := (hp7.cell (p := ⟨w.heap.size, 7, none⟩) (by show w.heap.size < _; omega)).trans kb1_7_6'
  have kb2_0_7 := (hp7.cell (p := ⟨w4.heap.size, 0, none⟩) (by show w4.heap.size < _; omega)).trans kb2_0_6'
  have kb2_1_7 := (hp7.cell (p := ⟨w4.heap.size, 1, none⟩) (by show w4.heap.size < _; omega)).trans kb2_1_6'
  have kb2_2_7 := (hp7.cell (p := ⟨w4.heap.size, 2, none⟩) (by show w4.heap.size < _; omega)).trans kb2_2_6'
  have kb2_3_7 := (hp7.cell (p := ⟨w4.heap.size, 3, none⟩) (by show w4.heap.size < _; omega)).trans kb2_3_6'
  have kb2_4_7 := (hp7.cell (p := ⟨w4.heap.size, 4, none⟩) (by show w4.heap.size < _; omega)).trans kb2_4_6'
  have kb2_5_7 := (hp7.cell (p := ⟨w4.heap.size, 5, none⟩) (by show w4.heap.size < _; omega)).trans kb2_5_6'
  have kb2_6_7 := (hp7.cell (p := ⟨w4.heap.size, 6, none⟩) (by show w4.heap.size < _; omega)).trans kb2_6_6'
  have kb2_7_7 := (hp7.cell (p := ⟨w4.heap.size, 7, none⟩) (by show w4.heap.size < _; omega)).trans kb2_7_6'
  have kb3_0_7 := (hp7.cell (p := ⟨w5.heap.size, 0, none⟩) (by show w5.heap.size < _; omega)).trans kb3_0_6'
  have kb3_1_7 := (hp7.cell (p := ⟨w5.heap.size, 1, none⟩) (by show w5.heap.size < _; omega)).trans kb3_1_6'
  have kb3_2_7 := (hp7.cell (p := ⟨w5.heap.size, 2, none⟩) (by show w5.heap.size < _; omega)).trans kb3_2_6'
  have kb3_3_7 := (hp7.cell (p := ⟨w5.heap.size, 3, none⟩) (by show w5.heap.size < _; omega)).trans kb3_3_6'
  have kb3_4_7 := (hp7.cell (p := ⟨w5.heap.size, 4, none⟩) (by show w5.heap.size < _; omega)).trans kb3_4_6'
  have kb3_5_7 := (hp7.cell (p := ⟨w5.heap.size, 5, none⟩) (by show w5.heap.size < _; omega)).trans kb3_5_6'
  have kb3_6_7 := (hp7.cell (p := ⟨w5.heap.size, 6, none⟩) (by show w5.heap.size < _; omega)).trans kb3_6_6'
  have kb3_7_7 := (hp7.cell (p := ⟨w5.heap.size, 7, none⟩) (by show w5.heap.size < _; omega)).trans kb3_7_6'
  have hB7 := hB6'.trans (hp7.mono hB6'.size)
  have hz7 : w6.heap.size ≤ W7.heap.size := hp7.size
  have hl_b1_7 : w.heap.size < W7.heap.size := by omega
  have hl_b2_7 : w4.heap.size < W7.heap.size := by omega
  have hl_b3_7 : w5.heap.size < W7.heap.size := by omega
  have HW7 := Lib.hid hW7; clear hW7
  clear ow0_4_0_6' ow0_4_1_6' ot5_0_6' ot5_1_6' ot6_0_n kb1_0_6' kb1_1_6' kb1_2_6' kb1_3_6' kb1_4_6' kb1_5_6' kb1_6_6' kb1_7_6' kb2_0_6' kb2_1_6' kb2_2_6' kb2_3_6' kb2_4_6' kb2_5_6' kb2_6_6' kb2_7_6' kb3_0_6' kb3_1_6' kb3_2_6' kb3_3_6' kb3_4_6' kb3_5_6' kb3_6_6' kb3_7_6'
  refine (PassOn_any A'5 c'5 R'5 d'5 v0 a1 A'6 c'6 l2 _ ot5_0_7.rd ot5_1_7.rd ot6_0_7.rd (by omega)).mono ?_
  rintro e w7 ⟨Ar0_7, cr0_7, Rr0_7, dr0_7, rfl, ho0_7, ho1_7, hb7⟩
  try simp only [Vg.val]
  have ow0_4_0_7' := Row2.below ow0_4_0_7 hb7 (by omega)
  have ow0_4_1_7' := Row2.below ow0_4_1_7 hb7 (by omega)
  have ot5_0_7' := Row2.below ot5_0_7 hb7 (by omega)
  have ot5_1_7' := Row2.below ot5_1_7 hb7 (by omega)
  have ot6_0_7' := Row2.below ot6_0_7 hb7 (by omega)
  have kb1_0_7' := (hb7.cell (p := ⟨w.heap.size, 0, none⟩) (by show w.heap.size < _; omega)).trans kb1_0_7
  have kb1_1_7' := (hb7.cell (p := ⟨w.heap.size, 1, none⟩) (by show w.heap.size < _; omega)).trans kb1_1_7
  have kb1_2_7' := (hb7.cell (p := ⟨w.heap.size, 2, none⟩) (by show w.heap.size < _; omega)).trans kb1_2_7
  have kb1_3_7' := (hb7.cell (p := ⟨w.heap.size, 3, none⟩) (by show w.heap.size < _; omega)).trans kb1_3_7
  have kb1_4_7' := (hb7.cell (p := ⟨w.heap.size, 4, none⟩) (by show w.heap.size < _; omega)).trans kb1_4_7
  have kb1_5_7' := (hb7.cell (p := ⟨w.heap.size, 5, none⟩) (by show w.heap.size < _; omega)).trans kb1_5_7
  have kb1_6_7' := (hb7.cell (p := ⟨w.heap.size, 6, none⟩) (by show w.heap.size < _; omega)).trans kb1_6_7
  have kb1_7_7' := (hb7.cell (p := ⟨w.heap.size, 7, none⟩) (by show w.heap.size < _; omega)).trans kb1_7_7
  have kb2_0_7' := (hb7.cell (p := ⟨w4.heap.size, 0, none⟩) (by show w4.heap.size < _; omega)).trans kb2_0_7
  have kb2_1_7' := (hb7.cell (p := ⟨w4.heap.size, 1, none⟩) (by show w4.heap.size < _; omega)).trans kb2_1_7
  have kb2_2_7' := (hb7.cell (p := ⟨w4.heap.size, 2, none⟩) (by show w4.heap.size < _; omega)).trans kb2_2_7
  have kb2_3_7' := (hb7.cell (p := ⟨w4.heap.size, 3, none⟩) (by show w4.heap.size < _; omega)).trans kb2_3_7
  have kb2_4_7' := (hb7.cell (p := ⟨w4.heap.size, 4, none⟩) (by show w4.heap.size < _; omega)).trans kb2_4_7
  have kb2_5_7' := (hb7.cell (p := ⟨w4.heap.size, 5, none⟩) (by show w4.heap.size < _; omega)).trans kb2_5_7
  have kb2_6_7' := (hb7.cell (p := ⟨w4.heap.size, 6, none⟩) (by show w4.heap.size < _; omega)).trans kb2_6_7
  have kb2_7_7' := (hb7.cell (p := ⟨w4.heap.size, 7, none⟩) (by show w4.heap.size < _; omega)).trans kb2_7_7
  have kb3_0_7' := (hb7.cell (p := ⟨w5.heap.size, 0, none⟩) (by show w5.heap.size < _; omega)).trans kb3_0_7
  have kb3_1_7' := (hb7.cell (p := ⟨w5.heap.size, 1, none⟩) (by show w5.heap.size < _; omega)).trans kb3_1_7
  have kb3_2_7' := (hb7.cell (p := ⟨w5.heap.size, 2, none⟩) (by show w5.heap.size < _; omega)).trans kb3_2_7
  have kb3_3_7' := (hb7.cell (p := ⟨w5.heap.size, 3, none⟩) (by show w5.heap.size < _; omega)).trans kb3_3_7
  have kb3_4_7' := (hb7.cell (p := ⟨w5.heap.size, 4, none⟩) (by show w5.heap.size < _; omega)).trans kb3_4_7
  have kb3_5_7' := (hb7.cell (p := ⟨w5.heap.size, 5, none⟩) (by show w5.heap.size < _; omega)).trans kb3_5_7
  have kb3_6_7' := (hb7.cell (p := ⟨w5.heap.size, 6, none⟩) (by show w5.heap.size < _; omega)).trans kb3_6_7
  have kb3_7_7' := (hb7.cell (p := ⟨w5.heap.size, 7, none⟩) (by show w5.heap.size < _; omega)).trans kb3_7_7
  have hB7' := hB7.trans (hb7.mono hB7.size)
  have hz7' : W7.heap.size ≤ w7.heap.size := hb7.size
  have hl_b1_7' : w.heap.size < w7.heap.size := by omega
  have hl_b2_7' : w4.heap.size < w7.heap.size := by omega
  have hl_b3_7' : w5.heap.size < w7.heap.size := by omega
  clear ow0_4_0_7 ow0_4_1_7 ot5_0_7 ot5_1_7 ot6_0_7 kb1_0_7 kb1_1_7 kb1_2_7 kb1_3_7 kb1_4_7 kb1_5_7 kb1_6_7 kb1_7_7 kb2_0_7 kb2_1_7 kb2_2_7 kb2_3_7 kb2_4_7 kb2_5_7 kb2_6_7 kb2_7_7 kb3_0_7 kb3_1_7 kb3_2_7 kb3_3_7 kb3_4_7 kb3_5_7 kb3_6_7 kb3_7_7
  rw [← HR1.out]
  have og0_7_0_n := Row2.born ho0_7
  have og0_7_1_n := Row2.born ho1_7
  clear ho0_7 ho1_7
  go_wp2_with fail
  first | refine name_world ?_ | refine name_wp ?_
  intro W8 hW8
  have hp8 : Below w7.heap.size w7 W8 := by rw [hW8]; repeat' (first | (with_reducible exact Below.refl _ _) | (with_reducible refine Below.alloc ?_ ?_ _) | (with_reducible refine Below.setCell ?_ ?_ _) | (with_reducible refine Below.drew ?_) | (simp; done) | (simp; omega))
  have kb4_0_8 : W8.cell? ⟨w7.heap.size, 0, none⟩ = some (.int .i64 (vPass v0 a1 l2).1.book.room) := by rw [hW8]; simp [go_sem]
  have kb4_1_8 : W8.cell? ⟨w7.heap.size, 1, none⟩ = some (.int .i64 (vPass v0 a1 l2).1.book.start) := by rw [hW8]; simp [go_sem]
  have kb4_2_8 : W8.cell? ⟨w7.heap.size, 2, none⟩ = some (.slice Ar0_7 (vPass v0 a1 l2).1.book.evs.length cr0_7) := by rw [hW8]; simp [go_sem]
  have kb4_3_8 : W8.cell? ⟨w7.heap.size, 3, none⟩ = some (.int .i64 (vPass v0 a1 l2).1.book.level) := by rw [hW8]; simp [go_sem]
  have kb4_4_8 : W8.cell? ⟨w7.heap.size, 4, none⟩ = some (.int .i64 (vPass v0 a1 l2).1.book.rained) := by rw [hW8]; simp [go_sem]
  have kb4_5_8 : W8.cell? ⟨w7.heap.size, 5, none⟩ = some (.int .i64 (vPass v0 a1 l2).1.book.drunk) := by rw [hW8]; simp [go_sem]
  have kb4_6_8 : W8.cell? ⟨w7.heap.size, 6, none⟩ = some (.int .i64 (vPass v0 a1 l2).1.book.lost) := by rw [hW8]; simp [go_sem]
  have kb4_7_8 : W8.cell? ⟨w7.heap.size, 7, none⟩ = some (.slice Rr0_7 (vPass v0 a1 l2).1.rights.length dr0_7) := by rw [hW8]; simp [go_sem]
  have hl_b4 : w7.heap.size < W8.heap.size := by rw [hW8]; first | (simp; done) | (simp; omega)
  have ow0_4_0_8 := Row2.below ow0_4_0_7' hp8 (by omega)
  have ow0_4_1_8 := Row2.below ow0_4_1_7' hp8 (by omega)
  have ot5_0_8 := Row2.below ot5_0_7' hp8 (by omega)
  have ot5_1_8 := Row2.below ot5_1_7' hp8 (by omega)
  have ot6_0_8 := Row2.below ot6_0_7' hp8 (by omega)
  have og0_7_0_8 := Row2.below og0_7_0_n hp8 (by omega)
  have og0_7_1_8 := Row2.below og0_7_1_n hp8 (by omega)
  have kb1_0_8 := (hp8.cell (p := ⟨w.heap.size, 0, none⟩) (by show w.heap.size < _; omega)).trans kb1_0_7'
  have kb1_1_8 := (hp8.cell (p := ⟨w.heap.size, 1, none⟩) (by show w.heap.size < _; omega)).trans kb1_1_7'
  have kb1_2_8 := (hp8.cell (p := ⟨w.heap.size, 2, none⟩) (by show w.heap.size < _; omega)).trans kb1_2_7'
  have kb1_3_8 := (hp8.cell (p := ⟨w.heap.size, 3, none⟩) (by show w.heap.size < _; omega)).trans kb1_3_7'
  have kb1_4_8 := (hp8.cell (p := ⟨w.heap.size, 4, none⟩) (by show w.heap.size < _; omega)).trans kb1_4_7'
  have kb1_5_8 := (hp8.cell (p := ⟨w.heap.size, 5, none⟩) (by show w.heap.size < _; omega)).trans kb1_5_7'
  have kb1_6_8 := (hp8.cell (p := ⟨w.heap.size, 6, none⟩) (by show w.heap.size < _; omega)).trans kb1_6_7'
  have kb1_7_8 := (hp8.cell (p := ⟨w.heap.size, 7, none⟩) (by show w.heap.size < _; omega)).trans kb1_7_7'
  have kb2_0_8 := (hp8.cell (p := ⟨w4.heap.size, 0, none⟩) (by show w4.heap.size < _; omega)).trans kb2_0_7'
  have kb2_1_8 := (hp8.cell (p := ⟨w4.heap.size, 1, none⟩) (by show w4.heap.size < _; omega)).trans kb2_1_7'
  have kb2_2_8 := (hp8.cell (p := ⟨w4.heap.size, 2, none⟩) (by show w4.heap.size < _; omega)).trans kb2_2_7'
  have kb2_3_8 := (hp8.cell (p := ⟨w4.heap.size, 3, none⟩) (by show w4.heap.size < _; omega)).trans kb2_3_7'
  have kb2_4_8 := (hp8.cell (p := ⟨w4.heap.size, 4, none⟩) (by show w4.heap.size < _; omega)).trans kb2_4_7'
  have kb2_5_8 := (hp8.cell (p := ⟨w4.heap.size, 5, none⟩) (by show w4.heap.size < _; omega)).trans kb2_5_7'
  have kb2_6_8 := (hp8.cell (p := ⟨w4.heap.size, 6, none⟩) (by show w4.heap.size < _; omega)).trans kb2_6_7'
  have kb2_7_8 := (hp8.cell (p := ⟨w4.heap.size, 7, none⟩) (by show w4.heap.size < _; omega)).trans kb2_7_7'
  have kb3_0_8 := (hp8.cell (p := ⟨w5.heap.size, 0, none⟩) (by show w5.heap.size < _; omega)).trans kb3_0_7'
  have kb3_1_8 := (hp8.cell (p := ⟨w5.heap.size, 1, none⟩) (by show w5.heap.size < _; omega)).trans kb3_1_7'
  have kb3_2_8 := (hp8.cell (p := ⟨w5.heap.size, 2, none⟩) (by show w5.heap.size < _; omega)).trans kb3_2_7'
  have kb3_3_8 := (hp8.cell (p := ⟨w5.heap.size, 3, none⟩) (by show w5.heap.size < _; omega)).trans kb3_3_7'
  have kb3_4_8 := (hp8.cell (p := ⟨w5.heap.size, 4, none⟩) (by show w5.heap.size < _; omega)).trans kb3_4_7'
  have kb3_5_8 := (hp8.cell (p := ⟨w5.heap.size, 5, none⟩) (by show w5.heap.size < _; omega)).trans kb3_5_7'
  have kb3_6_8 := (hp8.cell (p := ⟨w5.heap.size, 6, none⟩) (by show w5.heap.size < _; omega)).trans kb3_6_7'
  have kb3_7_8 := (hp8.cell (p := ⟨w5.heap.size, 7, none⟩) (by show w5.heap.size < _; omega)).trans kb3_7_7'
  have hB8 := hB7'.trans (hp8.mono hB7'.size)
  have hz8 : w7.heap.size ≤ W8.heap.size := hp8.size
  have hl_b1_8 : w.heap.size < W8.heap.size := by omega
  have hl_b2_8 : w4.heap.size < W8.heap.size := by omega
  have hl_b3_8 : w5.heap.size < W8.heap.size := by omega
  have HW8 := Lib.hid hW8; clear hW8
  clear ow0_4_0_7' ow0_4_1_7' ot5_0_7' ot5_1_7' ot6_0_7' og0_7_0_n og0_7_1_n kb1_0_7' kb1_1_7' kb1_2_7' kb1_3_7' kb1_4_7' kb1_5_7' kb1_6_7' kb1_7_7' kb2_0_7' kb2_1_7' kb2_2_7' kb2_3_7' kb2_4_7' kb2_5_7' kb2_6_7' kb2_7_7' kb3_0_7' kb3_1_7' kb3_2_7' kb3_3_7' kb3_4_7' kb3_5_7' kb3_6_7' kb3_7_7'
  refine (eqVillage_same Ar0_7 cr0_7 Rr0_7 dr0_7 Ar0_4 cr0_4 Rr0_4 dr0_4 ((vPass v0 a1 l2).1) _ og0_7_0_8.rd og0_7_1_8.rd ow0_4_0_8.rd ow0_4_1_8.rd).mono ?_
  rintro e w8 ⟨rfl, hb8⟩
  try simp only [Vg.val]
  have ow0_4_0_8' := Row2.below ow0_4_0_8 hb8 (by omega)
  have ow0_4_1_8' := Row2.below ow0_4_1_8 hb8 (by omega)
  have ot5_0_8' := Row2.below ot5_0_8 hb8 (by omega)
  have ot5_1_8' := Row2.below ot5_1_8 hb8 (by omega)
  have ot6_0_8' := Row2.below ot6_0_8 hb8 (by omega)
  have og0_7_0_8' := Row2.below og0_7_0_8 hb8 (by omega)
  have og0_7_1_8' := Row2.below og0_7_1_8 hb8 (by omega)
  have kb1_0_8' := (hb8.cell (p := ⟨w.heap.size, 0, none⟩) (by show w.heap.size < _; omega)).trans kb1_0_8
  have kb1_1_8' := (hb8.cell (p := ⟨w.heap.size, 1, none⟩) (by show w.heap.size < _; omega)).trans kb1_1_8
  have kb1_2_8' := (hb8.cell (p := ⟨w.heap.size, 2, none⟩) (by show w.heap.size < _; omega)).trans kb1_2_8
  have kb1_3_8' := (hb8.cell (p := ⟨w.heap.size, 3, none⟩) (by show w.heap.size < _; omega)).trans kb1_3_8
  have kb1_4_8' := (hb8.cell (p := ⟨w.heap.size, 4, none⟩) (by show w.heap.size < _; omega)).trans kb1_4_8
  have kb1_5_8' := (hb8.cell (p := ⟨w.heap.size, 5, none⟩) (by show w.heap.size < _; omega)).trans kb1_5_8
  have kb1_6_8' := (hb8.cell (p := ⟨w.heap.size, 6, none⟩) (by show w.heap.size < _; omega)).trans kb1_6_8
  have kb1_7_8' := (hb8.cell (p := ⟨w.heap.size, 7, none⟩) (by show w.heap.size < _; omega)).trans kb1_7_8
  have kb2_0_8' := (hb8.cell (p := ⟨w4.heap.size, 0, none⟩) (by show w4.heap.size < _; omega)).trans kb2_0_8
  have kb2_1_8' := (hb8.cell (p := ⟨w4.heap.size, 1, none⟩) (by show w4.heap.size < _; omega)).trans kb2_1_8
  have kb2_2_8' := (hb8.cell (p := ⟨w4.heap.size, 2, none⟩) (by show w4.heap.size < _; omega)).trans kb2_2_8
  have kb2_3_8' := (hb8.cell (p := ⟨w4.heap.size, 3, none⟩) (by show w4.heap.size < _; omega)).trans kb2_3_8
  have kb2_4_8' := (hb8.cell (p := ⟨w4.heap.size, 4, none⟩) (by show w4.heap.size < _; omega)).trans kb2_4_8
  have kb2_5_8' := (hb8.cell (p := ⟨w4.heap.size, 5, none⟩) (by show w4.heap.size < _; omega)).trans kb2_5_8
  have kb2_6_8' := (hb8.cell (p := ⟨w4.heap.size, 6, none⟩) (by show w4.heap.size < _; omega)).trans kb2_6_8
  have kb2_7_8' := (hb8.cell (p := ⟨w4.heap.size, 7, none⟩) (by show w4.heap.size < _; omega)).trans kb2_7_8
  have kb3_0_8' := (hb8.cell (p := ⟨w5.heap.size, 0, none⟩) (by show w5.heap.size < _; omega)).trans kb3_0_8
  have kb3_1_8' := (hb8.cell (p := ⟨w5.heap.size, 1, none⟩) (by show w5.heap.size < _; omega)).trans kb3_1_8
  have kb3_2_8' := (hb8.cell (p := ⟨w5.heap.size, 2, none⟩) (by show w5.heap.size < _; omega)).trans kb3_2_8
  have kb3_3_8' := (hb8.cell (p := ⟨w5.heap.size, 3, none⟩) (by show w5.heap.size < _; omega)).trans kb3_3_8
  have kb3_4_8' := (hb8.cell (p := ⟨w5.heap.size, 4, none⟩) (by show w5.heap.size < _; omega)).trans kb3_4_8
  have kb3_5_8' := (hb8.cell (p := ⟨w5.heap.size, 5, none⟩) (by show w5.heap.size < _; omega)).trans kb3_5_8
  have kb3_6_8' := (hb8.cell (p := ⟨w5.heap.size, 6, none⟩) (by show w5.heap.size < _; omega)).trans kb3_6_8
  have kb3_7_8' := (hb8.cell (p := ⟨w5.heap.size, 7, none⟩) (by show w5.heap.size < _; omega)).trans kb3_7_8
  have kb4_0_8' := (hb8.cell (p := ⟨w7.heap.size, 0, none⟩) (by show w7.heap.size < _; omega)).trans kb4_0_8
  have kb4_1_8' := (hb8.cell (p := ⟨w7.heap.size, 1, none⟩) (by show w7.heap.size < _; omega)).trans kb4_1_8
  have kb4_2_8' := (hb8.cell (p := ⟨w7.heap.size, 2, none⟩) (by show w7.heap.size < _; omega)).trans kb4_2_8
  have kb4_3_8' := (hb8.cell (p := ⟨w7.heap.size, 3, none⟩) (by show w7.heap.size < _; omega)).trans kb4_3_8
  have kb4_4_8' := (hb8.cell (p := ⟨w7.heap.size, 4, none⟩) (by show w7.heap.size < _; omega)).trans kb4_4_8
  have kb4_5_8' := (hb8.cell (p := ⟨w7.heap.size, 5, none⟩) (by show w7.heap.size < _; omega)).trans kb4_5_8
  have kb4_6_8' := (hb8.cell (p := ⟨w7.heap.size, 6, none⟩) (by show w7.heap.size < _; omega)).trans kb4_6_8
  have kb4_7_8' := (hb8.cell (p := ⟨w7.heap.size, 7, none⟩) (by show w7.heap.size < _; omega)).trans kb4_7_8
  have hB8' := hB8.trans (hb8.mono hB8.size)
  have hz8' : W8.heap.size ≤ w8.heap.size := hb8.size
  have hl_b1_8' : w.heap.size < w8.heap.size := by omega
  have hl_b2_8' : w4.heap.size < w8.heap.size := by omega
  have hl_b3_8' : w5.heap.size < w8.heap.size := by omega
  have hl_b4_8' : w7.heap.size < w8.heap.size := by omega
  clear ow0_4_0_8 ow0_4_1_8 ot5_0_8 ot5_1_8 ot6_0_8 og0_7_0_8 og0_7_1_8 kb1_0_8 kb1_1_8 kb1_2_8 kb1_3_8 kb1_4_8 kb1_5_8 kb1_6_8 kb1_7_8 kb2_0_8 kb2_1_8 kb2_2_8 kb2_3_8 kb2_4_8 kb2_5_8 kb2_6_8 kb2_7_8 kb3_0_8 kb3_1_8 kb3_2_8 kb3_3_8 kb3_4_8 kb3_5_8 kb3_6_8 kb3_7_8 kb4_0_8 kb4_1_8 kb4_2_8 kb4_3_8 kb4_4_8 kb4_5_8 kb4_6_8 kb4_7_8
  go_wp2_with fail
  go_region_held3 (fun w' => w'.cell? ⟨w5.heap.size, 0, none⟩ = some (.int .i64 v0.book.room) ∧ w'.cell? ⟨w5.heap.size, 1, none⟩ = some (.int .i64 v0.book.start) ∧ w'.cell? ⟨w5.heap.size, 2, none⟩ = some (.slice A'5 v0.book.evs.length c'5) ∧ w'.cell? ⟨w5.heap.size, 3, none⟩ = some (.int .i64 v0.book.level) ∧ w'.cell? ⟨w5.heap.size, 4, none⟩ = some (.int .i64 v0.book.rained) ∧ w'.cell? ⟨w5.heap.size, 5, none⟩ = some (.int .i64 v0.book.drunk) ∧ w'.cell? ⟨w5.heap.size, 6, none⟩ = some (.int .i64 v0.book.lost) ∧ w'.cell? ⟨w5.heap.size, 7, none⟩ = some (.slice R'5 v0.rights.length d'5) ∧ w'.cell? ⟨w.heap.size, 0, none⟩ = some (.int .i64 v0.book.room) ∧ w'.cell? ⟨w.heap.size, 1, none⟩ = some (.int .i64 v0.book.start) ∧ w'.cell? ⟨w.heap.size, 2, none⟩ = some (.slice A0 v0.book.evs.length c0) ∧ w'.cell? ⟨w.heap.size, 3, none⟩ = some (.int .i64 v0.book.level) ∧ w'.cell? ⟨w.heap.size, 4, none⟩ = some (.int .i64 v0.book.rained) ∧ w'.cell? ⟨w.heap.size, 5, none⟩ = some (.int .i64 v0.book.drunk) ∧ w'.cell? ⟨w.heap.size, 6, none⟩ = some (.int .i64 v0.book.lost) ∧ w'.cell? ⟨w.heap.size, 7, none⟩ = some (.slice R0 v0.rights.length d0)) (first | (with_reducible exact ⟨sa0_9, sa1_9, sa2_9, sa3_9, sa4_9, sa5_9, sa6_9, sa7_9, sa8_9, sa9_9, sa10_9, sa11_9, sa12_9, sa13_9, sa14_9, sa15_9⟩) | (with_reducible exact ⟨sb0_10, sb1_10, sb2_10, sb3_10, sb4_10, sb5_10, sb6_10, sb7_10, sb8_10, sb9_10, sb10_10, sb11_10, sb12_10, sb13_10, sb14_10, sb15_10⟩) | exact ⟨kb3_0_8', kb3_1_8', kb3_2_8', kb3_3_8', kb3_4_8', kb3_5_8', kb3_6_8', kb3_7_8', kb1_0_8', kb1_1_8', kb1_2_8', kb1_3_8', kb1_4_8', kb1_5_8', kb1_6_8', kb1_7_8'⟩)
    (first | (go_at_call 18; refine (toVillage_any A0 c0 R0 d0 v0 _ (Rd.later h0_0 hB8'.drew) (Rd.later h0_1 hB8'.drew) hs0).mono ?_; rintro e w9 ⟨A'9, c'9, R'9, d'9, rfl, ho0_9, ho1_9, hb9⟩; try simp only [Vg.val]; have sa0_9 := (hb9.cell (p := ⟨w5.heap.size, 0, none⟩) (by show w5.heap.size < w8.heap.size; omega)).trans kb3_0_8'; have sa1_9 := (hb9.cell (p := ⟨w5.heap.size, 1, none⟩) (by show w5.heap.size < w8.heap.size; omega)).trans kb3_1_8'; have sa2_9 := (hb9.cell (p := ⟨w5.heap.size, 2, none⟩) (by show w5.heap.size < w8.heap.size; omega)).trans kb3_2_8'; have sa3_9 := (hb9.cell (p := ⟨w5.heap.size, 3, none⟩) (by show w5.heap.size < w8.heap.size; omega)).trans kb3_3_8'; have sa4_9 := (hb9.cell (p := ⟨w5.heap.size, 4, none⟩) (by show w5.heap.size < w8.heap.size; omega)).trans kb3_4_8'; have sa5_9 := (hb9.cell (p := ⟨w5.heap.size, 5, none⟩) (by show w5.heap.size < w8.heap.size; omega)).trans kb3_5_8'; have sa6_9 := (hb9.cell (p := ⟨w5.heap.size, 6, none⟩) (by show w5.heap.size < w8.heap.size; omega)).trans kb3_6_8'; have sa7_9 := (hb9.cell (p := ⟨w5.heap.size, 7, none⟩) (by show w5.heap.size < w8.heap.size; omega)).trans kb3_7_8'; have sa8_9 := (hb9.cell (p := ⟨w.heap.size, 0, none⟩) (by show w.heap.size < w8.heap.size; omega)).trans kb1_0_8'; have sa9_9 := (hb9.cell (p := ⟨w.heap.size, 1, none⟩) (by show w.heap.size < w8.heap.size; omega)).trans kb1_1_8'; have sa10_9 := (hb9.cell (p := ⟨w.heap.size, 2, none⟩) (by show w.heap.size < w8.heap.size; omega)).trans kb1_2_8'; have sa11_9 := (hb9.cell (p := ⟨w.heap.size, 3, none⟩) (by show w.heap.size < w8.heap.size; omega)).trans kb1_3_8'; have sa12_9 := (hb9.cell (p := ⟨w.heap.size, 4, none⟩) (by show w.heap.size < w8.heap.size; omega)).trans kb1_4_8'; have sa13_9 := (hb9.cell (p := ⟨w.heap.size, 5, none⟩) (by show w.heap.size < w8.heap.size; omega)).trans kb1_5_8'; have sa14_9 := (hb9.cell (p := ⟨w.heap.size, 6, none⟩) (by show w.heap.size < w8.heap.size; omega)).trans kb1_6_8'; have sa15_9 := (hb9.cell (p := ⟨w.heap.size, 7, none⟩) (by show w.heap.size < w8.heap.size; omega)).trans kb1_7_8') | (go_at_call 21; refine (eqVillage_same A'5 c'5 R'5 d'5 A'9 c'9 R'9 d'9 (v0) _ (Row2.below (Row2.drew ot5_0_8') hb9 (by show _ ≤ w8.heap.size; omega)).rd (Row2.below (Row2.drew ot5_1_8') hb9 (by show _ ≤ w8.heap.size; omega)).rd (Row2.born ho0_9).rd (Row2.born ho1_9).rd).mono ?_; rintro e w10 ⟨rfl, hb10⟩; have sb0_10 := (hb10.cell (p := ⟨w5.heap.size, 0, none⟩) (by show w5.heap.size < _; have := hb9.size; have : w8.heap.size ≤ w9.heap.size := this; omega)).trans sa0_9; have sb1_10 := (hb10.cell (p := ⟨w5.heap.size, 1, none⟩) (by show w5.heap.size < _; have := hb9.size; have : w8.heap.size ≤ w9.heap.size := this; omega)).trans sa1_9; have sb2_10 := (hb10.cell (p := ⟨w5.heap.size, 2, none⟩) (by show w5.heap.size < _; have := hb9.size; have : w8.heap.size ≤ w9.heap.size := this; omega)).trans sa2_9; have sb3_10 := (hb10.cell (p := ⟨w5.heap.size, 3, none⟩) (by show w5.heap.size < _; have := hb9.size; have : w8.heap.size ≤ w9.heap.size := this; omega)).trans sa3_9; have sb4_10 := (hb10.cell (p := ⟨w5.heap.size, 4, none⟩) (by show w5.heap.size < _; have := hb9.size; have : w8.heap.size ≤ w9.heap.size := this; omega)).trans sa4_9; have sb5_10 := (hb10.cell (p := ⟨w5.heap.size, 5, none⟩) (by show w5.heap.size < _; have := hb9.size; have : w8.heap.size ≤ w9.heap.size := this; omega)).trans sa5_9; have sb6_10 := (hb10.cell (p := ⟨w5.heap.size, 6, none⟩) (by show w5.heap.size < _; have := hb9.size; have : w8.heap.size ≤ w9.heap.size := this; omega)).trans sa6_9; have sb7_10 := (hb10.cell (p := ⟨w5.heap.size, 7, none⟩) (by show w5.heap.size < _; have := hb9.size; have : w8.heap.size ≤ w9.heap.size := this; omega)).trans sa7_9; have sb8_10 := (hb10.cell (p := ⟨w.heap.size, 0, none⟩) (by show w.heap.size < _; have := hb9.size; have : w8.heap.size ≤ w9.heap.size := this; omega)).trans sa8_9; have sb9_10 := (hb10.cell (p := ⟨w.heap.size, 1, none⟩) (by show w.heap.size < _; have := hb9.size; have : w8.heap.size ≤ w9.heap.size := this; omega)).trans sa9_9; have sb10_10 := (hb10.cell (p := ⟨w.heap.size, 2, none⟩) (by show w.heap.size < _; have := hb9.size; have : w8.heap.size ≤ w9.heap.size := this; omega)).trans sa10_9; have sb11_10 := (hb10.cell (p := ⟨w.heap.size, 3, none⟩) (by show w.heap.size < _; have := hb9.size; have : w8.heap.size ≤ w9.heap.size := this; omega)).trans sa11_9; have sb12_10 := (hb10.cell (p := ⟨w.heap.size, 4, none⟩) (by show w.heap.size < _; have := hb9.size; have : w8.heap.size ≤ w9.heap.size := this; omega)).trans sa12_9; have sb13_10 := (hb10.cell (p := ⟨w.heap.size, 5, none⟩) (by show w.heap.size < _; have := hb9.size; have : w8.heap.size ≤ w9.heap.size := this; omega)).trans sa13_9; have sb14_10 := (hb10.cell (p := ⟨w.heap.size, 6, none⟩) (by show w.heap.size < _; have := hb9.size; have : w8.heap.size ≤ w9.heap.size := this; omega)).trans sa14_9; have sb15_10 := (hb10.cell (p := ⟨w.heap.size, 7, none⟩) (by show w.heap.size < _; have := hb9.size; have : w8.heap.size ≤ w9.heap.size := this; omega)).trans sa15_9))
  have hb9d := below_of_drew hb9
  have ow0_4_0_9' := Row2.below ow0_4_0_8' hb9d (by omega)
  have ow0_4_1_9' := Row2.below ow0_4_1_8' hb9d (by omega)
  have ot5_0_9' := Row2.below ot5_0_8' hb9d (by omega)
  have ot5_1_9' := Row2.below ot5_1_8' hb9d (by omega)
  have ot6_0_9' := Row2.below ot6_0_8' hb9d (by omega)
  have og0_7_0_9' := Row2.below og0_7_0_8' hb9d (by omega)
  have og0_7_1_9' := Row2.below og0_7_1_8' hb9d (by omega)
  have kb1_0_9' := (hb9d.cell (p := ⟨w.heap.size, 0, none⟩) (by show w.heap.size < _; omega)).trans kb1_0_8'
  have kb1_1_9' := (hb9d.cell (p := ⟨w.heap.size, 1, none⟩) (by show w.heap.size < _; omega)).trans kb1_1_8'
  have kb1_2_9' := (hb9d.cell (p := ⟨w.heap.size, 2, none⟩) (by show w.heap.size < _; omega)).trans kb1_2_8'
  have kb1_3_9' := (hb9d.cell (p := ⟨w.heap.size, 3, none⟩) (by show w.heap.size < _; omega)).trans kb1_3_8'
  have kb1_4_9' := (hb9d.cell (p := ⟨w.heap.size, 4, none⟩) (by show w.heap.size < _; omega)).trans kb1_4_8'
  have kb1_5_9' := (hb9d.cell (p := ⟨w.heap.size, 5, none⟩) (by show w.heap.size < _; omega)).trans kb1_5_8'
  have kb1_6_9' := (hb9d.cell (p := ⟨w.heap.size, 6, none⟩) (by show w.heap.size < _; omega)).trans kb1_6_8'
  have kb1_7_9' := (hb9d.cell (p := ⟨w.heap.size, 7, none⟩) (by show w.heap.size < _; omega)).trans kb1_7_8'
  have kb2_0_9' := (hb9d.cell (p := ⟨w4.heap.size, 0, none⟩) (by show w4.heap.size < _; omega)).trans kb2_0_8'
  have kb2_1_9' := (hb9d.cell (p := ⟨w4.heap.size, 1, none⟩) (by show w4.heap.size < _; omega)).trans kb2_1_8'
  have kb2_2_9' := (hb9d.cell (p := ⟨w4.heap.size, 2, none⟩) (by show w4.heap.size < _; omega)).trans kb2_2_8'
  have kb2_3_9' := (hb9d.cell (p := ⟨w4.heap.size, 3, none⟩) (by show w4.heap.size < _; omega)).trans kb2_3_8'
  have kb2_4_9' := (hb9d.cell (p := ⟨w4.heap.size, 4, none⟩) (by show w4.heap.size < _; omega)).trans kb2_4_8'
  have kb2_5_9' := (hb9d.cell (p := ⟨w4.heap.size, 5, none⟩) (by show w4.heap.size < _; omega)).trans kb2_5_8'
  have kb2_6_9' := (hb9d.cell (p := ⟨w4.heap.size, 6, none⟩) (by show w4.heap.size < _; omega)).trans kb2_6_8'
  have kb2_7_9' := (hb9d.cell (p := ⟨w4.heap.size, 7, none⟩) (by show w4.heap.size < _; omega)).trans kb2_7_8'
  have kb3_0_9' := (hb9d.cell (p := ⟨w5.heap.size, 0, none⟩) (by show w5.heap.size < _; omega)).trans kb3_0_8'
  have kb3_1_9' := (hb9d.cell (p := ⟨w5.heap.size, 1, none⟩) (by show w5.heap.size < _; omega)).trans kb3_1_8'
  have kb3_2_9' := (hb9d.cell (p := ⟨w5.heap.size, 2, none⟩) (by show w5.heap.size < _; omega)).trans kb3_2_8'
  have kb3_3_9' := (hb9d.cell (p := ⟨w5.heap.size, 3, none⟩) (by show w5.heap.size < _; omega)).trans kb3_3_8'
  have kb3_4_9' := (hb9d.cell (p := ⟨w5.heap.size, 4, none⟩) (by show w5.heap.size < _; omega)).trans kb3_4_8'
  have kb3_5_9' := (hb9d.cell (p := ⟨w5.heap.size, 5, none⟩) (by show w5.heap.size < _; omega)).trans kb3_5_8'
  have kb3_6_9' := (hb9d.cell (p := ⟨w5.heap.size, 6, none⟩) (by show w5.heap.size < _; omega)).trans kb3_6_8'
  have kb3_7_9' := (hb9d.cell (p := ⟨w5.heap.size, 7, none⟩) (by show w5.heap.size < _; omega)).trans kb3_7_8'
  have kb4_0_9' := (hb9d.cell (p := ⟨w7.heap.size, 0, none⟩) (by show w7.heap.size < _; omega)).trans kb4_0_8'
  have kb4_1_9' := (hb9d.cell (p := ⟨w7.heap.size, 1, none⟩) (by show w7.heap.size < _; omega)).trans kb4_1_8'
  have kb4_2_9' := (hb9d.cell (p := ⟨w7.heap.size, 2, none⟩) (by show w7.heap.size < _; omega)).trans kb4_2_8'
  have kb4_3_9' := (hb9d.cell (p := ⟨w7.heap.size, 3, none⟩) (by show w7.heap.size < _; omega)).trans kb4_3_8'
  have kb4_4_9' := (hb9d.cell (p := ⟨w7.heap.size, 4, none⟩) (by show w7.heap.size < _; omega)).trans kb4_4_8'
  have kb4_5_9' := (hb9d.cell (p := ⟨w7.heap.size, 5, none⟩) (by show w7.heap.size < _; omega)).trans kb4_5_8'
  have kb4_6_9' := (hb9d.cell (p := ⟨w7.heap.size, 6, none⟩) (by show w7.heap.size < _; omega)).trans kb4_6_8'
  have kb4_7_9' := (hb9d.cell (p := ⟨w7.heap.size, 7, none⟩) (by show w7.heap.size < _; omega)).trans kb4_7_8'
  have hB9' := hB8'.trans (hb9d.mono hB8'.size)
  have hz9' : w8.heap.size ≤ w9.heap.size := hb9d.size
  have hl_b1_9' : w.heap.size < w9.heap.size := by omega
  have hl_b2_9' : w4.heap.size < w9.heap.size := by omega
  have hl_b3_9' : w5.heap.size < w9.heap.size := by omega
  have hl_b4_9' : w7.heap.size < w9.heap.size := by omega
  have ow0_4_0_10' := Row2.below ow0_4_0_9' hb10 (by omega)
  have ow0_4_1_10' := Row2.below ow0_4_1_9' hb10 (by omega)
  have ot5_0_10' := Row2.below ot5_0_9' hb10 (by omega)
  have ot5_1_10' := Row2.below ot5_1_9' hb10 (by omega)
  have ot6_0_10' := Row2.below ot6_0_9' hb10 (by omega)
  have og0_7_0_10' := Row2.below og0_7_0_9' hb10 (by omega)
  have og0_7_1_10' := Row2.below og0_7_1_9' hb10 (by omega)
  have kb1_0_10' := (hb10.cell (p := ⟨w.heap.size, 0, none⟩) (by show w.heap.size < _; omega)).trans kb1_0_9'
  have kb1_1_10' := (hb10.cell (p := ⟨w.heap.size, 1, none⟩) (by show w.heap.size < _; omega)).trans kb1_1_9'
  have kb1_2_10' := (hb10.cell (p := ⟨w.heap.size, 2, none⟩) (by show w.heap.size < _; omega)).trans kb1_2_9'
  have kb1_3_10' := (hb10.cell (p := ⟨w.heap.size, 3, none⟩) (by show w.heap.size < _; omega)).trans kb1_3_9'
  have kb1_4_10' := (hb10.cell (p := ⟨w.heap.size, 4, none⟩) (by show w.heap.size < _; omega)).trans kb1_4_9'
  have kb1_5_10' := (hb10.cell (p := ⟨w.heap.size, 5, none⟩) (by show w.heap.size < _; omega)).trans kb1_5_9'
  have kb1_6_10' := (hb10.cell (p := ⟨w.heap.size, 6, none⟩) (by show w.heap.size < _; omega)).trans kb1_6_9'
  have kb1_7_10' := (hb10.cell (p := ⟨w.heap.size, 7, none⟩) (by show w.heap.size < _; omega)).trans kb1_7_9'
  have kb2_0_10' := (hb10.cell (p := ⟨w4.heap.size, 0, none⟩) (by show w4.heap.size < _; omega)).trans kb2_0_9'
  have kb2_1_10' := (hb10.cell (p := ⟨w4.heap.size, 1, none⟩) (by show w4.heap.size < _; omega)).trans kb2_1_9'
  have kb2_2_10' := (hb10.cell (p := ⟨w4.heap.size, 2, none⟩) (by show w4.heap.size < _; omega)).trans kb2_2_9'
  have kb2_3_10' := (hb10.cell (p := ⟨w4.heap.size, 3, none⟩) (by show w4.heap.size < _; omega)).trans kb2_3_9'
  have kb2_4_10' := (hb10.cell (p := ⟨w4.heap.size, 4, none⟩) (by show w4.heap.size < _; omega)).trans kb2_4_9'
  have kb2_5_10' := (hb10.cell (p := ⟨w4.heap.size, 5, none⟩) (by show w4.heap.size < _; omega)).trans kb2_5_9'
  have kb2_6_10' := (hb10.cell (p := ⟨w4.heap.size, 6, none⟩) (by show w4.heap.size < _; omega)).trans kb2_6_9'
  have kb2_7_10' := (hb10.cell (p := ⟨w4.heap.size, 7, none⟩) (by show w4.heap.size < _; omega)).trans kb2_7_9'
  have kb3_0_10' := (hb10.cell (p := ⟨w5.heap.size, 0, none⟩) (by show w5.heap.size < _; omega)).trans kb3_0_9'
  have kb3_1_10' := (hb10.cell (p := ⟨w5.heap.size, 1, none⟩) (by show w5.heap.size < _; omega)).trans kb3_1_9'
  have kb3_2_10' := (hb10.cell (p := ⟨w5.heap.size, 2, none⟩) (by show w5.heap.size < _; omega)).trans kb3_2_9'
  have kb3_3_10' := (hb10.cell (p := ⟨w5.heap.size, 3, none⟩) (by show w5.heap.size < _; omega)).trans kb3_3_9'
  have kb3_4_10' := (hb10.cell (p := ⟨w5.heap.size, 4, none⟩) (by show w5.heap.size < _; omega)).trans kb3_4_9'
  have kb3_5_10' := (hb10.cell (p := ⟨w5.heap.size, 5, none⟩) (by show w5.heap.size < _; omega)).trans kb3_5_9'
  have kb3_6_10' := (hb10.cell (p := ⟨w5.heap.size, 6, none⟩) (by show w5.heap.size < _; omega)).trans kb3_6_9'
  have kb3_7_10' := (hb10.cell (p := ⟨w5.heap.size, 7, none⟩) (by show w5.heap.size < _; omega)).trans kb3_7_9'
  have kb4_0_10' := (hb10.cell (p := ⟨w7.heap.size, 0, none⟩) (by show w7.heap.size < _; omega)).trans kb4_0_9'
  have kb4_1_10' := (hb10.cell (p := ⟨w7.heap.size, 1, none⟩) (by show w7.heap.size < _; omega)).trans kb4_1_9'
  have kb4_2_10' := (hb10.cell (p := ⟨w7.heap.size, 2, none⟩) (by show w7.heap.size < _; omega)).trans kb4_2_9'
  have kb4_3_10' := (hb10.cell (p := ⟨w7.heap.size, 3, none⟩) (by show w7.heap.size < _; omega)).trans kb4_3_9'
  have kb4_4_10' := (hb10.cell (p := ⟨w7.heap.size, 4, none⟩) (by show w7.heap.size < _; omega)).trans kb4_4_9'
  have kb4_5_10' := (hb10.cell (p := ⟨w7.heap.size, 5, none⟩) (by show w7.heap.size < _; omega)).trans kb4_5_9'
  have kb4_6_10' := (hb10.cell (p := ⟨w7.heap.size, 6, none⟩) (by show w7.heap.size < _; omega)).trans kb4_6_9'
  have kb4_7_10' := (hb10.cell (p := ⟨w7.heap.size, 7, none⟩) (by show w7.heap.size < _; omega)).trans kb4_7_9'
  have hB10' := hB9'.trans (hb10.mono hB9'.size)
  have hz10' : w9.heap.size ≤ w10.heap.size := hb10.size
  have hl_b1_10' : w.heap.size < w10.heap.size := by omega
  have hl_b2_10' : w4.heap.size < w10.heap.size := by omega
  have hl_b3_10' : w5.heap.size < w10.heap.size := by omega
  have hl_b4_10' : w7.heap.size < w10.heap.size := by omega
  clear sa0_9 sb0_10 sa1_9 sb1_10 sa2_9 sb2_10 sa3_9 sb3_10 sa4_9 sb4_10 sa5_9 sb5_10 sa6_9 sb6_10 sa7_9 sb7_10 sa8_9 sb8_10 sa9_9 sb9_10 sa10_9 sb10_10 sa11_9 sb11_10 sa12_9 sb12_10 sa13_9 sb13_10 sa14_9 sb14_10 sa15_9 sb15_10 ow0_4_0_8' ow0_4_1_8' ot5_0_8' ot5_1_8' ot6_0_8' og0_7_0_8' og0_7_1_8' kb1_0_8' kb1_1_8' kb1_2_8' kb1_3_8' kb1_4_8' kb1_5_8' kb1_6_8' kb1_7_8' kb2_0_8' kb2_1_8' kb2_2_8' kb2_3_8' kb2_4_8' kb2_5_8' kb2_6_8' kb2_7_8' kb3_0_8' kb3_1_8' kb3_2_8' kb3_3_8' kb3_4_8' kb3_5_8' kb3_6_8' kb3_7_8' kb4_0_8' kb4_1_8' kb4_2_8' kb4_3_8' kb4_4_8' kb4_5_8' kb4_6_8' kb4_7_8' ow0_4_0_9' ow0_4_1_9' ot5_0_9' ot5_1_9' ot6_0_9' og0_7_0_9' og0_7_1_9' kb1_0_9' kb1_1_9' kb1_2_9' kb1_3_9' kb1_4_9' kb1_5_9' kb1_6_9' kb1_7_9' kb2_0_9' kb2_1_9' kb2_2_9' kb2_3_9' kb2_4_9' kb2_5_9' kb2_6_9' kb2_7_9' kb3_0_9' kb3_1_9' kb3_2_9' kb3_3_9' kb3_4_9' kb3_5_9' kb3_6_9' kb3_7_9' kb4_0_9' kb4_1_9' kb4_2_9' kb4_3_9' kb4_4_9' kb4_5_9' kb4_6_9' kb4_7_9' ho0_9 ho1_9
  go_wp2_with fail
  first | refine name_world ?_ | refine name_wp ?_
  intro W11 hW11
  have hp11 : Below w10.heap.size w10 W11 := by rw [hW11]; repeat' (first | (with_reducible exact Below.refl _ _) | (with_reducible refine Below.alloc ?_ ?_ _) | (with_reducible refine Below.setCell ?_ ?_ _) | (with_reducible refine Below.drew ?_) | (simp; done) | (simp; omega))
  have ow0_4_0_11 := Row2.below ow0_4_0_10' hp11 (by omega)
  have ow0_4_1_11 := Row2.below ow0_4_1_10' hp11 (by omega)
  have ot5_0_11 := Row2.below ot5_0_10' hp11 (by omega)
  have ot5_1_11 := Row2.below ot5_1_10' hp11 (by omega)
  have ot6_0_11 := Row2.below ot6_0_10' hp11 (by omega)
  have og0_7_0_11 := Row2.below og0_7_0_10' hp11 (by omega)
  have og0_7_1_11 := Row2.below og0_7_1_10' hp11 (by omega)
  have kb1_0_11 := (hp11.cell (p := ⟨w.heap.size, 0, none⟩) (by show w.heap.size < _; omega)).trans kb1_0_10'
  have kb1_1_11 := (hp11.cell (p := ⟨w.heap.size, 1, none⟩) (by show w.heap.size < _; omega)).trans kb1_1_10'
  have kb1_2_11 := (hp11.cell (p := ⟨w.heap.size, 2, none⟩) (by show w.heap.size < _; omega)).trans kb1_2_10'
  have kb1_3_11 := (hp11.cell (p := ⟨w.heap.size, 3, none⟩) (by show w.heap.size < _; omega)).trans kb1_3_10'
  have kb1_4_11 := (hp11.cell (p := ⟨w.heap.size, 4, none⟩) (by show w.heap.size < _; omega)).trans kb1_4_10'
  have kb1_5_11 := (hp11.cell (p := ⟨w.heap.size, 5, none⟩) (by show w.heap.size < _; omega)).trans kb1_5_10'
  have kb1_6_11 := (hp11.cell (p := ⟨w.heap.size, 6, none⟩) (by show w.heap.size < _; omega)).trans kb1_6_10'
  have kb1_7_11 := (hp11.cell (p := ⟨w.heap.size, 7, none⟩) (by show w.heap.size < _; omega)).trans kb1_7_10'
  have kb2_0_11 := (hp11.cell (p := ⟨w4.heap.size, 0, none⟩) (by show w4.heap.size < _; omega)).trans kb2_0_10'
  have kb2_1_11 := (hp11.cell (p := ⟨w4.heap.size, 1, none⟩) (by show w4.heap.size < _; omega)).trans kb2_1_10'
  have kb2_2_11 := (hp11.cell (p := ⟨w4.heap.size, 2, none⟩) (by show w4.heap.size < _; omega)).trans kb2_2_10'
  have kb2_3_11 := (hp11.cell (p := ⟨w4.heap.size, 3, none⟩) (by show w4.heap.size < _; omega)).trans kb2_3_10'
  have kb2_4_11 := (hp11.cell (p := ⟨w4.heap.size, 4, none⟩) (by show w4.heap.size < _; omega)).trans kb2_4_10'
  have kb2_5_11 := (hp11.cell (p := ⟨w4.heap.size, 5, none⟩) (by show w4.heap.size < _; omega)).trans kb2_5_10'
  have kb2_6_11 := (hp11.cell (p := ⟨w4.heap.size, 6, none⟩) (by show w4.heap.size < _; omega)).trans kb2_6_10'
  have kb2_7_11 := (hp11.cell (p := ⟨w4.heap.size, 7, none⟩) (by show w4.heap.size < _; omega)).trans kb2_7_10'
  have kb3_0_11 := (hp11.cell (p := ⟨w5.heap.size, 0, none⟩) (by show w5.heap.size < _; omega)).trans kb3_0_10'
  have kb3_1_11 := (hp11.cell (p := ⟨w5.heap.size, 1, none⟩) (by show w5.heap.size < _; omega)).trans kb3_1_10'
  have kb3_2_11 := (hp11.cell (p := ⟨w5.heap.size, 2, none⟩) (by show w5.heap.size < _; omega)).trans kb3_2_10'
  have kb3_3_11 := (hp11.cell (p := ⟨w5.heap.size, 3, none⟩) (by show w5.heap.size < _; omega)).trans kb3_3_10'
  have kb3_4_11 := (hp11.cell (p := ⟨w5.heap.size, 4, none⟩) (by show w5.heap.size < _; omega)).trans kb3_4_10'
  have kb3_5_11 := (hp11.cell (p := ⟨w5.heap.size, 5, none⟩) (by show w5.heap.size < _; omega)).trans kb3_5_10'
  have kb3_6_11 := (hp11.cell (p := ⟨w5.heap.size, 6, none⟩) (by show w5.heap.size < _; omega)).trans kb3_6_10'
  have kb3_7_11 := (hp11.cell (p := ⟨w5.heap.size, 7, none⟩) (by show w5.heap.size < _; omega)).trans kb3_7_10'
  have kb4_0_11 := (hp11.cell (p := ⟨w7.heap.size, 0, none⟩) (by show w7.heap.size < _; omega)).trans kb4_0_10'
  have kb4_1_11 := (hp11.cell (p := ⟨w7.heap.size, 1, none⟩) (by show w7.heap.size < _; omega)).trans kb4_1_10'
  have kb4_2_11 := (hp11.cell (p := ⟨w7.heap.size, 2, none⟩) (by show w7.heap.size < _; omega)).trans kb4_2_10'
  have kb4_3_11 := (hp11.cell (p := ⟨w7.heap.size, 3, none⟩) (by show w7.heap.size < _; omega)).trans kb4_3_10'
  have kb4_4_11 := (hp11.cell (p := ⟨w7.heap.size, 4, none⟩) (by show w7.heap.size < _; omega)).trans kb4_4_10'
  have kb4_5_11 := (hp11.cell (p := ⟨w7.heap.size, 5, none⟩) (by show w7.heap.size < _; omega)).trans kb4_5_10'
  have kb4_6_11 := (hp11.cell (p := ⟨w7.heap.size, 6, none⟩) (by show w7.heap.size < _; omega)).trans kb4_6_10'
  have kb4_7_11 := (hp11.cell (p := ⟨w7.heap.size, 7, none⟩) (by show w7.heap.size < _; omega)).trans kb4_7_10'
  have hB11 := hB10'.trans (hp11.mono hB10'.size)
  have hz11 : w10.heap.size ≤ W11.heap.size := hp11.size
  have hl_b1_11 : w.heap.size < W11.heap.size := by omega
  have hl_b2_11 : w4.heap.size < W11.heap.size := by omega
  have hl_b3_11 : w5.heap.size < W11.heap.size := by omega
  have hl_b4_11 : w7.heap.size < W11.heap.size := by omega
  have HW11 := Lib.hid hW11; clear hW11
  clear ow0_4_0_10' ow0_4_1_10' ot5_0_10' ot5_1_10' ot6_0_10' og0_7_0_10' og0_7_1_10' kb1_0_10' kb1_1_10' kb1_2_10' kb1_3_10' kb1_4_10' kb1_5_10' kb1_6_10' kb1_7_10' kb2_0_10' kb2_1_10' kb2_2_10' kb2_3_10' kb2_4_10' kb2_5_10' kb2_6_10' kb2_7_10' kb3_0_10' kb3_1_10' kb3_2_10' kb3_3_10' kb3_4_10' kb3_5_10' kb3_6_10' kb3_7_10' kb4_0_10' kb4_1_10' kb4_2_10' kb4_3_10' kb4_4_10' kb4_5_10' kb4_6_10' kb4_7_10'
  refine (toIntS_any A2 c2 l2 _ (Rd.later h2_0 hB11) hs2).mono ?_
  rintro e w11 ⟨A'11, c'11, rfl, ho0_11, hb11⟩
  try simp only [Vg.val]
  have ow0_4_0_11' := Row2.below ow0_4_0_11 hb11 (by omega)
  have ow0_4_1_11' := Row2.below ow0_4_1_11 hb11 (by omega)
  have ot5_0_11' := Row2.below ot5_0_11 hb11 (by omega)
  have ot5_1_11' := Row2.below ot5_1_11 hb11 (by omega)
  have ot6_0_11' := Row2.below ot6_0_11 hb11 (by omega)
  have og0_7_0_11' := Row2.below og0_7_0_11 hb11 (by omega)
  have og0_7_1_11' := Row2.below og0_7_1_11 hb11 (by omega)
  have kb1_0_11' := (hb11.cell (p := ⟨w.heap.size, 0, none⟩) (by show w.heap.size < _; omega)).trans kb1_0_11
  have kb1_1_11' := (hb11.cell (p := ⟨w.heap.size, 1, none⟩) (by show w.heap.size < _; omega)).trans kb1_1_11
  have kb1_2_11' := (hb11.cell (p := ⟨w.heap.size, 2, none⟩) (by show w.heap.size < _; omega)).trans kb1_2_11
  have kb1_3_11' := (hb11.cell (p := ⟨w.heap.size, 3, none⟩) (by show w.heap.size < _; omega)).trans kb1_3_11
  have kb1_4_11' := (hb11.cell (p := ⟨w.heap.size, 4, none⟩) (by show w.heap.size < _; omega)).trans kb1_4_11
  have kb1_5_11' := (hb11.cell (p := ⟨w.heap.size, 5, none⟩) (by show w.heap.size < _; omega)).trans kb1_5_11
  have kb1_6_11' := (hb11.cell (p := ⟨w.heap.size, 6, none⟩) (by show w.heap.size < _; omega)).trans kb1_6_11
  have kb1_7_11' := (hb11.cell (p := ⟨w.heap.size, 7, none⟩) (by show w.heap.size < _; omega)).trans kb1_7_11
  have kb2_0_11' := (hb11.cell (p := ⟨w4.heap.size, 0, none⟩) (by show w4.heap.size < _; omega)).trans kb2_0_11
  have kb2_1_11' := (hb11.cell (p := ⟨w4.heap.size, 1, none⟩) (by show w4.heap.size < _; omega)).trans kb2_1_11
  have kb2_2_11' := (hb11.cell (p := ⟨w4.heap.size, 2, none⟩) (by show w4.heap.size < _; omega)).trans kb2_2_11
  have kb2_3_11' := (hb11.cell (p := ⟨w4.heap.size, 3, none⟩) (by show w4.heap.size < _; omega)).trans kb2_3_11
  have kb2_4_11' := (hb11.cell (p := ⟨w4.heap.size, 4, none⟩) (by show w4.heap.size < _; omega)).trans kb2_4_11
  have kb2_5_11' := (hb11.cell (p := ⟨w4.heap.size, 5, none⟩) (by show w4.heap.size < _; omega)).trans kb2_5_11
  have kb2_6_11' := (hb11.cell (p := ⟨w4.heap.size, 6, none⟩) (by show w4.heap.size < _; omega)).trans kb2_6_11
  have kb2_7_11' := (hb11.cell (p := ⟨w4.heap.size, 7, none⟩) (by show w4.heap.size < _; omega)).trans kb2_7_11
  have kb3_0_11' := (hb11.cell (p := ⟨w5.heap.size, 0, none⟩) (by show w5.heap.size < _; omega)).trans kb3_0_11
  have kb3_1_11' := (hb11.cell (p := ⟨w5.heap.size, 1, none⟩) (by show w5.heap.size < _; omega)).trans kb3_1_11
  have kb3_2_11' := (hb11.cell (p := ⟨w5.heap.size, 2, none⟩) (by show w5.heap.size < _; omega)).trans kb3_2_11
  have kb3_3_11' := (hb11.cell (p := ⟨w5.heap.size, 3, none⟩) (by show w5.heap.size < _; omega)).trans kb3_3_11
  have kb3_4_11' := (hb11.cell (p := ⟨w5.heap.size, 4, none⟩) (by show w5.heap.size < _; omega)).trans kb3_4_11
  have kb3_5_11' := (hb11.cell (p := ⟨w5.heap.size, 5, none⟩) (by show w5.heap.size < _; omega)).trans kb3_5_11
  have kb3_6_11' := (hb11.cell (p := ⟨w5.heap.size, 6, none⟩) (by show w5.heap.size < _; omega)).trans kb3_6_11
  have kb3_7_11' := (hb11.cell (p := ⟨w5.heap.size, 7, none⟩) (by show w5.heap.size < _; omega)).trans kb3_7_11
  have kb4_0_11' := (hb11.cell (p := ⟨w7.heap.size, 0, none⟩) (by show w7.heap.size < _; omega)).trans kb4_0_11
  have kb4_1_11' := (hb11.cell (p := ⟨w7.heap.size, 1, none⟩) (by show w7.heap.size < _; omega)).trans kb4_1_11
  have kb4_2_11' := (hb11.cell (p := ⟨w7.heap.size, 2, none⟩) (by show w7.heap.size < _; omega)).trans kb4_2_11
  have kb4_3_11' := (hb11.cell (p := ⟨w7.heap.size, 3, none⟩) (by show w7.heap.size < _; omega)).trans kb4_3_11
  have kb4_4_11' := (hb11.cell (p := ⟨w7.heap.size, 4, none⟩) (by show w7.heap.size < _; omega)).trans kb4_4_11
  have kb4_5_11' := (hb11.cell (p := ⟨w7.heap.size, 5, none⟩) (by show w7.heap.size < _; omega)).trans kb4_5_11
  have kb4_6_11' := (hb11.cell (p := ⟨w7.heap.size, 6, none⟩) (by show w7.heap.size < _; omega)).trans kb4_6_11
  have kb4_7_11' := (hb11.cell (p := ⟨w7.heap.size, 7, none⟩) (by show w7.heap.size < _; omega)).trans kb4_7_11
  have hB11' := hB11.trans (hb11.mono hB11.size)
  have hz11' : W11.heap.size ≤ w11.heap.size := hb11.size
  have hl_b1_11' : w.heap.size < w11.heap.size := by omega
  have hl_b2_11' : w4.heap.size < w11.heap.size := by omega
  have hl_b3_11' : w5.heap.size < w11.heap.size := by omega
  have hl_b4_11' : w7.heap.size < w11.heap.size := by omega
  have ot11_0_n := Row2.born ho0_11
  clear ow0_4_0_11 ow0_4_1_11 ot5_0_11 ot5_1_11 ot6_0_11 og0_7_0_11 og0_7_1_11 kb1_0_11 kb1_1_11 kb1_2_11 kb1_3_11 kb1_4_11 kb1_5_11 kb1_6_11 kb1_7_11 kb2_0_11 kb2_1_11 kb2_2_11 kb2_3_11 kb2_4_11 kb2_5_11 kb2_6_11 kb2_7_11 kb3_0_11 kb3_1_11 kb3_2_11 kb3_3_11 kb3_4_11 kb3_5_11 kb3_6_11 kb3_7_11 kb4_0_11 kb4_1_11 kb4_2_11 kb4_3_11 kb4_4_11 kb4_5_11 kb4_6_11 kb4_7_11 ho0_11
  go_wp2_with fail
  first | refine name_world ?_ | refine name_wp ?_
  intro W12 hW12
  have hp12 : Below w11.heap.size w11 W12 := by rw [hW12]; repeat' (first | (with_reducible exact Below.refl _ _) | (with_reducible refine Below.alloc ?_ ?_ _) | (with_reducible refine Below.setCell ?_ ?_ _) | (with_reducible refine Below.drew ?_) | (simp; done) | (simp; omega))
  have ow0_4_0_12 := Row2.below ow0_4_0_11' hp12 (by omega)
  have ow0_4_1_12 := Row2.below ow0_4_1_11' hp12 (by omega)
  have ot5_0_12 := Row2.below ot5_0_11' hp12 (by omega)
  have ot5_1_12 := Row2.below ot5_1_11' hp12 (by omega)
  have ot6_0_12 := Row2.below ot6_0_11' hp12 (by omega)
  have og0_7_0_12 := Row2.below og0_7_0_11' hp12 (by omega)
  have og0_7_1_12 := Row2.below og0_7_1_11' hp12 (by omega)
  have ot11_0_12 := Row2.below ot11_0_n hp12 (by omega)
  have kb1_0_12 := (hp12.cell (p := ⟨w.heap.size, 0, none⟩) (by show w.heap.size < _; omega)).trans kb1_0_11'
  have kb1_1_12 := (hp12.cell (p := ⟨w.heap.size, 1, none⟩) (by show w.heap.size < _; omega)).trans kb1_1_11'
  have kb1_2_12 := (hp12.cell (p := ⟨w.heap.size, 2, none⟩) (by show w.heap.size < _; omega)).trans kb1_2_11'
  have kb1_3_12 := (hp12.cell (p := ⟨w.heap.size, 3, none⟩) (by show w.heap.size < _; omega)).trans kb1_3_11'
  have kb1_4_12 := (hp12.cell (p := ⟨w.heap.size, 4, none⟩) (by show w.heap.size < _; omega)).trans kb1_4_11'
  have kb1_5_12 := (hp12.cell (p := ⟨w.heap.size, 5, none⟩) (by show w.heap.size < _; omega)).trans kb1_5_11'
  have kb1_6_12 := (hp12.cell (p := ⟨w.heap.size, 6, none⟩) (by show w.heap.size < _; omega)).trans kb1_6_11'
  have kb1_7_12 := (hp12.cell (p := ⟨w.heap.size, 7, none⟩) (by show w.heap.size < _; omega)).trans kb1_7_11'
  have kb2_0_12 := (hp12.cell (p := ⟨w4.heap.size, 0, none⟩) (by show w4.heap.size < _; omega)).trans kb2_0_11'
  have kb2_1_12 := (hp12.cell (p := ⟨w4.heap.size, 1, none⟩) (by show w4.heap.size < _; omega)).trans kb2_1_11'
  have kb2_2_12 := (hp12.cell (p := ⟨w4.heap.size, 2, none⟩) (by show w4.heap.size < _; omega)).trans kb2_2_11'
  have kb2_3_12 := (hp12.cell (p := ⟨w4.heap.size, 3, none⟩) (by show w4.heap.size < _; omega)).trans kb2_3_11'
  have kb2_4_12 := (hp12.cell (p := ⟨w4.heap.size, 4, none⟩) (by show w4.heap.size < _; omega)).trans kb2_4_11'
  have kb2_5_12 := (hp12.cell (p := ⟨w4.heap.size, 5, none⟩) (by show w4.heap.size < _; omega)).trans kb2_5_11'
  have kb2_6_12 := (hp12.cell (p := ⟨w4.heap.size, 6, none⟩) (by show w4.heap.size < _; omega)).trans kb2_6_11'
  have kb2_7_12 := (hp12.cell (p := ⟨w4.heap.size, 7, none⟩) (by show w4.heap.size < _; omega)).trans kb2_7_11'
  have kb3_0_12 := (hp12.cell (p := ⟨w5.heap.size, 0, none⟩) (by show w5.heap.size < _; omega)).trans kb3_0_11'
  have kb3_1_12 := (hp12.cell (p := ⟨w5.heap.size, 1, none⟩) (by show w5.heap.size < _; omega)).trans kb3_1_11'
  have kb3_2_12 := (hp12.cell (p := ⟨w5.heap.size, 2, none⟩) (by show w5.heap.size < _; omega)).trans kb3_2_11'
  have kb3_3_12 := (hp12.cell (p := ⟨w5.heap.size, 3, none⟩) (by show w5.heap.size < _; omega)).trans kb3_3_11'
  have kb3_4_12 := (hp12.cell (p := ⟨w5.heap.size, 4, none⟩) (by show w5.heap.size < _; omega)).trans kb3_4_11'
  have kb3_5_12 := (hp12.cell (p := ⟨w5.heap.size, 5, none⟩) (by show w5.heap.size < _; omega)).trans kb3_5_11'
  have kb3_6_12 := (hp12.cell (p := ⟨w5.heap.size, 6, none⟩) (by show w5.heap.size < _; omega)).trans kb3_6_11'
  have kb3_7_12 := (hp12.cell (p := ⟨w5.heap.size, 7, none⟩) (by show w5.heap.size < _; omega)).trans kb3_7_11'
  have kb4_0_12 := (hp12.cell (p := ⟨w7.heap.size, 0, none⟩) (by show w7.heap.size < _; omega)).trans kb4_0_11'
  have kb4_1_12 := (hp12.cell (p := ⟨w7.heap.size, 1, none⟩) (by show w7.heap.size < _; omega)).trans kb4_1_11'
  have kb4_2_12 := (hp12.cell (p := ⟨w7.heap.size, 2, none⟩) (by show w7.heap.size < _; omega)).trans kb4_2_11'
  have kb4_3_12 := (hp12.cell (p := ⟨w7.heap.size, 3, none⟩) (by show w7.heap.size < _; omega)).trans kb4_3_11'
  have kb4_4_12 := (hp12.cell (p := ⟨w7.heap.size, 4, none⟩) (by show w7.heap.size < _; omega)).trans kb4_4_11'
  have kb4_5_12 := (hp12.cell (p := ⟨w7.heap.size, 5, none⟩) (by show w7.heap.size < _; omega)).trans kb4_5_11'
  have kb4_6_12 := (hp12.cell (p := ⟨w7.heap.size, 6, none⟩) (by show w7.heap.size < _; omega)).trans kb4_6_11'
  have kb4_7_12 := (hp12.cell (p := ⟨w7.heap.size, 7, none⟩) (by show w7.heap.size < _; omega)).trans kb4_7_11'
  have hB12 := hB11'.trans (hp12.mono hB11'.size)
  have hz12 : w11.heap.size ≤ W12.heap.size := hp12.size
  have hl_b1_12 : w.heap.size < W12.heap.size := by omega
  have hl_b2_12 : w4.heap.size < W12.heap.size := by omega
  have hl_b3_12 : w5.heap.size < W12.heap.size := by omega
  have hl_b4_12 : w7.heap.size < W12.heap.size := by omega
  have HW12 := Lib.hid hW12; clear hW12
  clear ow0_4_0_11' ow0_4_1_11' ot5_0_11' ot5_1_11' ot6_0_11' og0_7_0_11' og0_7_1_11' ot11_0_n kb1_0_11' kb1_1_11' kb1_2_11' kb1_3_11' kb1_4_11' kb1_5_11' kb1_6_11' kb1_7_11' kb2_0_11' kb2_1_11' kb2_2_11' kb2_3_11' kb2_4_11' kb2_5_11' kb2_6_11' kb2_7_11' kb3_0_11' kb3_1_11' kb3_2_11' kb3_3_11' kb3_4_11' kb3_5_11' kb3_6_11' kb3_7_11' kb4_0_11' kb4_1_11' kb4_2_11' kb4_3_11' kb4_4_11' kb4_5_11' kb4_6_11' kb4_7_11'
  refine (eqIntS_same A'6 c'6 A'11 c'11 (l2) _ ot6_0_12.rd ot11_0_12.rd).mono ?_
  rintro e w12 ⟨rfl, hb12⟩
  try simp only [Vg.val]
  have ow0_4_0_12' := Row2.below ow0_4_0_12 hb12 (by omega)
  have ow0_4_1_12' := Row2.below ow0_4_1_12 hb12 (by omega)
  have ot5_0_12' := Row2.below ot5_0_12 hb12 (by omega)
  have ot5_1_12' := Row2.below ot5_1_12 hb12 (by omega)
  have ot6_0_12' := Row2.below ot6_0_12 hb12 (by omega)
  have og0_7_0_12' := Row2.below og0_7_0_12 hb12 (by omega)
  have og0_7_1_12' := Row2.below og0_7_1_12 hb12 (by omega)
  have ot11_0_12' := Row2.below ot11_0_12 hb12 (by omega)
  have kb1_0_12' := (hb12.cell (p := ⟨w.heap.size, 0, none⟩) (by show w.heap.size < _; omega)).trans kb1_0_12
  have kb1_1_12' := (hb12.cell (p := ⟨w.heap.size, 1, none⟩) (by show w.heap.size < _; omega)).trans kb1_1_12
  have kb1_2_12' := (hb12.cell (p := ⟨w.heap.size, 2, none⟩) (by show w.heap.size < _; omega)).trans kb1_2_12
  have kb1_3_12' := (hb12.cell (p := ⟨w.heap.size, 3, none⟩) (by show w.heap.size < _; omega)).trans kb1_3_12
  have kb1_4_12' := (hb12.cell (p := ⟨w.heap.size, 4, none⟩) (by show w.heap.size < _; omega)).trans kb1_4_12
  have kb1_5_12' := (hb12.cell (p := ⟨w.heap.size, 5, none⟩) (by show w.heap.size < _; omega)).trans kb1_5_12
  have kb1_6_12' := (hb12.cell (p := ⟨w.heap.size, 6, none⟩) (by show w.heap.size < _; omega)).trans kb1_6_12
  have kb1_7_12' := (hb12.cell (p := ⟨w.heap.size, 7, none⟩) (by show w.heap.size < _; omega)).trans kb1_7_12
  have kb2_0_12' := (hb12.cell (p := ⟨w4.heap.size, 0, none⟩) (by show w4.heap.size < _; omega)).trans kb2_0_12
  have kb2_1_12' := (hb12.cell (p := ⟨w4.heap.size, 1, none⟩) (by show w4.heap.size < _; omega)).trans kb2_1_12
  have kb2_2_12' := (hb12.cell (p := ⟨w4.heap.size, 2, none⟩) (by show w4.heap.size < _; omega)).trans kb2_2_12
  have kb2_3_12' := (hb12.cell (p := ⟨w4.heap.size, 3, none⟩) (by show w4.heap.size < _; omega)).trans kb2_3_12
  have kb2_4_12' := (hb12.cell (p := ⟨w4.heap.size, 4, none⟩) (by show w4.heap.size < _; omega)).trans kb2_4_12
  have kb2_5_12' := (hb12.cell (p := ⟨w4.heap.size, 5, none⟩) (by show w4.heap.size < _; omega)).trans kb2_5_12
  have kb2_6_12' := (hb12.cell (p := ⟨w4.heap.size, 6, none⟩) (by show w4.heap.size < _; omega)).trans kb2_6_12
  have kb2_7_12' := (hb12.cell (p := ⟨w4.heap.size, 7, none⟩) (by show w4.heap.size < _; omega)).trans kb2_7_12
  have kb3_0_12' := (hb12.cell (p := ⟨w5.heap.size, 0, none⟩) (by show w5.heap.size < _; omega)).trans kb3_0_12
  have kb3_1_12' := (hb12.cell (p := ⟨w5.heap.size, 1, none⟩) (by show w5.heap.size < _; omega)).trans kb3_1_12
  have kb3_2_12' := (hb12.cell (p := ⟨w5.heap.size, 2, none⟩) (by show w5.heap.size < _; omega)).trans kb3_2_12
  have kb3_3_12' := (hb12.cell (p := ⟨w5.heap.size, 3, none⟩) (by show w5.heap.size < _; omega)).trans kb3_3_12
  have kb3_4_12' := (hb12.cell (p := ⟨w5.heap.size, 4, none⟩) (by show w5.heap.size < _; omega)).trans kb3_4_12
  have kb3_5_12' := (hb12.cell (p := ⟨w5.heap.size, 5, none⟩) (by show w5.heap.size < _; omega)).trans kb3_5_12
  have kb3_6_12' := (hb12.cell (p := ⟨w5.heap.size, 6, none⟩) (by show w5.heap.size < _; omega)).trans kb3_6_12
  have kb3_7_12' := (hb12.cell (p := ⟨w5.heap.size, 7, none⟩) (by show w5.heap.size < _; omega)).trans kb3_7_12
  have kb4_0_12' := (hb12.cell (p := ⟨w7.heap.size, 0, none⟩) (by show w7.heap.size < _; omega)).trans kb4_0_12
  have kb4_1_12' := (hb12.cell (p := ⟨w7.heap.size, 1, none⟩) (by show w7.heap.size < _; omega)).trans kb4_1_12
  have kb4_2_12' := (hb12.cell (p := ⟨w7.heap.size, 2, none⟩) (by show w7.heap.size < _; omega)).trans kb4_2_12
  have kb4_3_12' := (hb12.cell (p := ⟨w7.heap.size, 3, none⟩) (by show w7.heap.size < _; omega)).trans kb4_3_12
  have kb4_4_12' := (hb12.cell (p := ⟨w7.heap.size, 4, none⟩) (by show w7.heap.size < _; omega)).trans kb4_4_12
  have kb4_5_12' := (hb12.cell (p := ⟨w7.heap.size, 5, none⟩) (by show w7.heap.size < _; omega)).trans kb4_5_12
  have kb4_6_12' := (hb12.cell (p := ⟨w7.heap.size, 6, none⟩) (by show w7.heap.size < _; omega)).trans kb4_6_12
  have kb4_7_12' := (hb12.cell (p := ⟨w7.heap.size, 7, none⟩) (by show w7.heap.size < _; omega)).trans kb4_7_12
  have hB12' := hB12.trans (hb12.mono hB12.size)
  have hz12' : W12.heap.size ≤ w12.heap.size := hb12.size
  have hl_b1_12' : w.heap.size < w12.heap.size := by omega
  have hl_b2_12' : w4.heap.size < w12.heap.size := by omega
  have hl_b3_12' : w5.heap.size < w12.heap.size := by omega
  have hl_b4_12' : w7.heap.size < w12.heap.size := by omega
  clear ow0_4_0_12 ow0_4_1_12 ot5_0_12 ot5_1_12 ot6_0_12 og0_7_0_12 og0_7_1_12 ot11_0_12 kb1_0_12 kb1_1_12 kb1_2_12 kb1_3_12 kb1_4_12 kb1_5_12 kb1_6_12 kb1_7_12 kb2_0_12 kb2_1_12 kb2_2_12 kb2_3_12 kb2_4_12 kb2_5_12 kb2_6_12 kb2_7_12 kb3_0_12 kb3_1_12 kb3_2_12 kb3_3_12 kb3_4_12 kb3_5_12 kb3_6_12 kb3_7_12 kb4_0_12 kb4_1_12 kb4_2_12 kb4_3_12 kb4_4_12 kb4_5_12 kb4_6_12 kb4_7_12
  go_wp2_with fail
  first | refine name_world ?_ | refine name_wp ?_
  intro W13 hW13
  have hp13 : Below w12.heap.size w12 W13 := by rw [hW13]; repeat' (first | (with_reducible exact Below.refl _ _) | (with_reducible refine Below.alloc ?_ ?_ _) | (with_reducible refine Below.setCell ?_ ?_ _) | (with_reducible refine Below.drew ?_) | (simp; done) | (simp; omega))
  have ow0_4_0_13 := Row2.below ow0_4_0_12' hp13 (by omega)
  have ow0_4_1_13 := Row2.below ow0_4_1_12' hp13 (by omega)
  have ot5_0_13 := Row2.below ot5_0_12' hp13 (by omega)
  have ot5_1_13 := Row2.below ot5_1_12' hp13 (by omega)
  have ot6_0_13 := Row2.below ot6_0_12' hp13 (by omega)
  have og0_7_0_13 := Row2.below og0_7_0_12' hp13 (by omega)
  have og0_7_1_13 := Row2.below og0_7_1_12' hp13 (by omega)
  have kb1_0_13 := (hp13.cell (p := ⟨w.heap.size, 0, none⟩) (by show w.heap.size < _; omega)).trans kb1_0_12'
  have kb1_1_13 := (hp13.cell (p := ⟨w.heap.size, 1, none⟩) (by show w.heap.size < _; omega)).trans kb1_1_12'
  have kb1_2_13 := (hp13.cell (p := ⟨w.heap.size, 2, none⟩) (by show w.heap.size < _; omega)).trans kb1_2_12'
  have kb1_3_13 := (hp13.cell (p := ⟨w.heap.size, 3, none⟩) (by show w.heap.size < _; omega)).trans kb1_3_12'
  have kb1_4_13 := (hp13.cell (p := ⟨w.heap.size, 4, none⟩) (by show w.heap.size < _; omega)).trans kb1_4_12'
  have kb1_5_13 := (hp13.cell (p := ⟨w.heap.size, 5, none⟩) (by show w.heap.size < _; omega)).trans kb1_5_12'
  have kb1_6_13 := (hp13.cell (p := ⟨w.heap.size, 6, none⟩) (by show w.heap.size < _; omega)).trans kb1_6_12'
  have kb1_7_13 := (hp13.cell (p := ⟨w.heap.size, 7, none⟩) (by show w.heap.size < _; omega)).trans kb1_7_12'
  have kb2_0_13 := (hp13.cell (p := ⟨w4.heap.size, 0, none⟩) (by show w4.heap.size < _; omega)).trans kb2_0_12'
  have kb2_1_13 := (hp13.cell (p := ⟨w4.heap.size, 1, none⟩) (by show w4.heap.size < _; omega)).trans kb2_1_12'
  have kb2_2_13 := (hp13.cell (p := ⟨w4.heap.size, 2, none⟩) (by show w4.heap.size < _; omega)).trans kb2_2_12'
  have kb2_3_13 := (hp13.cell (p := ⟨w4.heap.size, 3, none⟩) (by show w4.heap.size < _; omega)).trans kb2_3_12'
  have kb2_4_13 := (hp13.cell (p := ⟨w4.heap.size, 4, none⟩) (by show w4.heap.size < _; omega)).trans kb2_4_12'
  have kb2_5_13 := (hp13.cell (p := ⟨w4.heap.size, 5, none⟩) (by show w4.heap.size < _; omega)).trans kb2_5_12'
  have kb2_6_13 := (hp13.cell (p := ⟨w4.heap.size, 6, none⟩) (by show w4.heap.size < _; omega)).trans kb2_6_12'
  have kb2_7_13 := (hp13.cell (p := ⟨w4.heap.size, 7, none⟩) (by show w4.heap.size < _; omega)).trans kb2_7_12'
  have kb3_0_13 := (hp13.cell (p := ⟨w5.heap.size, 0, none⟩) (by show w5.heap.size < _; omega)).trans kb3_0_12'
  have kb3_1_13 := (hp13.cell (p := ⟨w5.heap.size, 1, none⟩) (by show w5.heap.size < _; omega)).trans kb3_1_12'
  have kb3_2_13 := (hp13.cell (p := ⟨w5.heap.size, 2, none⟩) (by show w5.heap.size < _; omega)).trans kb3_2_12'
  have kb3_3_13 := (hp13.cell (p := ⟨w5.heap.size, 3, none⟩) (by show w5.heap.size < _; omega)).trans kb3_3_12'
  have kb3_4_13 := (hp13.cell (p := ⟨w5.heap.size, 4, none⟩) (by show w5.heap.size < _; omega)).trans kb3_4_12'
  have kb3_5_13 := (hp13.cell (p := ⟨w5.heap.size, 5, none⟩) (by show w5.heap.size < _; omega)).trans kb3_5_12'
  have kb3_6_13 := (hp13.cell (p := ⟨w5.heap.size, 6, none⟩) (by show w5.heap.size < _; omega)).trans kb3_6_12'
  have kb3_7_13 := (hp13.cell (p := ⟨w5.heap.size, 7, none⟩) (by show w5.heap.size < _; omega)).trans kb3_7_12'
  have kb4_0_13 := (hp13.cell (p := ⟨w7.heap.size, 0, none⟩) (by show w7.heap.size < _; omega)).trans kb4_0_12'
  have kb4_1_13 := (hp13.cell (p := ⟨w7.heap.size, 1, none⟩) (by show w7.heap.size < _; omega)).trans kb4_1_12'
  have kb4_2_13 := (hp13.cell (p := ⟨w7.heap.size, 2, none⟩) (by show w7.heap.size < _; omega)).trans kb4_2_12'
  have kb4_3_13 := (hp13.cell (p := ⟨w7.heap.size, 3, none⟩) (by show w7.heap.size < _; omega)).trans kb4_3_12'
  have kb4_4_13 := (hp13.cell (p := ⟨w7.heap.size, 4, none⟩) (by show w7.heap.size < _; omega)).trans kb4_4_12'
  have kb4_5_13 := (hp13.cell (p := ⟨w7.heap.size, 5, none⟩) (by show w7.heap.size < _; omega)).trans kb4_5_12'
  have kb4_6_13 := (hp13.cell (p := ⟨w7.heap.size, 6, none⟩) (by show w7.heap.size < _; omega)).trans kb4_6_12'
  have kb4_7_13 := (hp13.cell (p := ⟨w7.heap.size, 7, none⟩) (by show w7.heap.size < _; omega)).trans kb4_7_12'
  have hB13 := hB12'.trans (hp13.mono hB12'.size)
  have hz13 : w12.heap.size ≤ W13.heap.size := hp13.size
  have hl_b1_13 : w.heap.size < W13.heap.size := by omega
  have hl_b2_13 : w4.heap.size < W13.heap.size := by omega
  have hl_b3_13 : w5.heap.size < W13.heap.size := by omega
  have hl_b4_13 : w7.heap.size < W13.heap.size := by omega
  have HW13 := Lib.hid hW13; clear hW13
  clear ow0_4_0_12' ow0_4_1_12' ot5_0_12' ot5_1_12' ot6_0_12' og0_7_0_12' og0_7_1_12' kb1_0_12' kb1_1_12' kb1_2_12' kb1_3_12' kb1_4_12' kb1_5_12' kb1_6_12' kb1_7_12' kb2_0_12' kb2_1_12' kb2_2_12' kb2_3_12' kb2_4_12' kb2_5_12' kb2_6_12' kb2_7_12' kb3_0_12' kb3_1_12' kb3_2_12' kb3_3_12' kb3_4_12' kb3_5_12' kb3_6_12' kb3_7_12' kb4_0_12' kb4_1_12' kb4_2_12' kb4_3_12' kb4_4_12' kb4_5_12' kb4_6_12' kb4_7_12'
  refine (markVillage_2 A'5 c'5 R'5 d'5 _ _ (v0) (1) _ (by omega) _ ot5_0_13 ot5_1_13 (by first | omega | (simp; omega))).mono ?_
  rintro e w13 ⟨rfl, hm0_13, hm1_13, hc13⟩
  try simp only [Vg.val]
  have ow0_4_0_13' := Row2.chg ow0_4_0_13 hc13 (by omega)
  have ow0_4_1_13' := Row2.chg ow0_4_1_13 hc13 (by omega)
  have ot6_0_13' := Row2.chg ot6_0_13 hc13 (by omega)
  have og0_7_0_13' := Row2.chg og0_7_0_13 hc13 (by omega)
  have og0_7_1_13' := Row2.chg og0_7_1_13 hc13 (by omega)
  have kb1_0_13' := (Chg.cell hc13 (p := ⟨w.heap.size, 0, none⟩) (by show w.heap.size < _; omega) (by show w.heap.size < _ ∨ _ ≤ w.heap.size; omega)).trans kb1_0_13
  have kb1_1_13' := (Chg.cell hc13 (p := ⟨w.heap.size, 1, none⟩) (by show w.heap.size < _; omega) (by show w.heap.size < _ ∨ _ ≤ w.heap.size; omega)).trans kb1_1_13
  have kb1_2_13' := (Chg.cell hc13 (p := ⟨w.heap.size, 2, none⟩) (by show w.heap.size < _; omega) (by show w.heap.size < _ ∨ _ ≤ w.heap.size; omega)).trans kb1_2_13
  have kb1_3_13' := (Chg.cell hc13 (p := ⟨w.heap.size, 3, none⟩) (by show w.heap.size < _; omega) (by show w.heap.size < _ ∨ _ ≤ w.heap.size; omega)).trans kb1_3_13
  have kb1_4_13' := (Chg.cell hc13 (p := ⟨w.heap.size, 4, none⟩) (by show w.heap.size < _; omega) (by show w.heap.size < _ ∨ _ ≤ w.heap.size; omega)).trans kb1_4_13
  have kb1_5_13' := (Chg.cell hc13 (p := ⟨w.heap.size, 5, none⟩) (by show w.heap.size < _; omega) (by show w.heap.size < _ ∨ _ ≤ w.heap.size; omega)).trans kb1_5_13
  have kb1_6_13' := (Chg.cell hc13 (p := ⟨w.heap.size, 6, none⟩) (by show w.heap.size < _; omega) (by show w.heap.size < _ ∨ _ ≤ w.heap.size; omega)).trans kb1_6_13
  have kb1_7_13' := (Chg.cell hc13 (p := ⟨w.heap.size, 7, none⟩) (by show w.heap.size < _; omega) (by show w.heap.size < _ ∨ _ ≤ w.heap.size; omega)).trans kb1_7_13
  have kb2_0_13' := (Chg.cell hc13 (p := ⟨w4.heap.size, 0, none⟩) (by show w4.heap.size < _; omega) (by show w4.heap.size < _ ∨ _ ≤ w4.heap.size; omega)).trans kb2_0_13
  have kb2_1_13' := (Chg.cell hc13 (p := ⟨w4.heap.size, 1, none⟩) (by show w4.heap.size < _; omega) (by show w4.heap.size < _ ∨ _ ≤ w4.heap.size; omega)).trans kb2_1_13
  have kb2_2_13' := (Chg.cell hc13 (p := ⟨w4.heap.size, 2, none⟩) (by show w4.heap.size < _; omega) (by show w4.heap.size < _ ∨ _ ≤ w4.heap.size; omega)).trans kb2_2_13
  have kb2_3_13' := (Chg.cell hc13 (p := ⟨w4.heap.size, 3, none⟩) (by show w4.heap.size < _; omega) (by show w4.heap.size < _ ∨ _ ≤ w4.heap.size; omega)).trans kb2_3_13
  have kb2_4_13' := (Chg.cell hc13 (p := ⟨w4.heap.size, 4, none⟩) (by show w4.heap.size < _; omega) (by show w4.heap.size < _ ∨ _ ≤ w4.heap.size; omega)).trans kb2_4_13
  have kb2_5_13' := (Chg.cell hc13 (p := ⟨w4.heap.size, 5, none⟩) (by show w4.heap.size < _; omega) (by show w4.heap.size < _ ∨ _ ≤ w4.heap.size; omega)).trans kb2_5_13
  have kb2_6_13' := (Chg.cell hc13 (p := ⟨w4.heap.size, 6, none⟩) (by show w4.heap.size < _; omega) (by show w4.heap.size < _ ∨ _ ≤ w4.heap.size; omega)).trans kb2_6_13
  have kb2_7_13' := (Chg.cell hc13 (p := ⟨w4.heap.size, 7, none⟩) (by show w4.heap.size < _; omega) (by show w4.heap.size < _ ∨ _ ≤ w4.heap.size; omega)).trans kb2_7_13
  have kb3_0_13' := (Chg.cell hc13 (p := ⟨w5.heap.size, 0, none⟩) (by show w5.heap.size < _; omega) (by show w5.heap.size < _ ∨ _ ≤ w5.heap.size; omega)).trans kb3_0_13
  have kb3_1_13' := (Chg.cell hc13 (p := ⟨w5.heap.size, 1, none⟩) (by show w5.heap.size < _; omega) (by show w5.heap.size < _ ∨ _ ≤ w5.heap.size; omega)).trans kb3_1_13
  have kb3_2_13' := (Chg.cell hc13 (p := ⟨w5.heap.size, 2, none⟩) (by show w5.heap.size < _; omega) (by show w5.heap.size < _ ∨ _ ≤ w5.heap.size; omega)).trans kb3_2_13
  have kb3_3_13' := (Chg.cell hc13 (p := ⟨w5.heap.size, 3, none⟩) (by show w5.heap.size < _; omega) (by show w5.heap.size < _ ∨ _ ≤ w5.heap.size; omega)).trans kb3_3_13
  have kb3_4_13' := (Chg.cell hc13 (p := ⟨w5.heap.size, 4, none⟩) (by show w5.heap.size < _; omega) (by show w5.heap.size < _ ∨ _ ≤ w5.heap.size; omega)).trans kb3_4_13
  have kb3_5_13' := (Chg.cell hc13 (p := ⟨w5.heap.size, 5, none⟩) (by show w5.heap.size < _; omega) (by show w5.heap.size < _ ∨ _ ≤ w5.heap.size; omega)).trans kb3_5_13
  have kb3_6_13' := (Chg.cell hc13 (p := ⟨w5.heap.size, 6, none⟩) (by show w5.heap.size < _; omega) (by show w5.heap.size < _ ∨ _ ≤ w5.heap.size; omega)).trans kb3_6_13
  have kb3_7_13' := (Chg.cell hc13 (p := ⟨w5.heap.size, 7, none⟩) (by show w5.heap.size < _; omega) (by show w5.heap.size < _ ∨ _ ≤ w5.heap.size; omega)).trans kb3_7_13
  have kb4_0_13' := (Chg.cell hc13 (p := ⟨w7.heap.size, 0, none⟩) (by show w7.heap.size < _; omega) (by show w7.heap.size < _ ∨ _ ≤ w7.heap.size; omega)).trans kb4_0_13
  have kb4_1_13' := (Chg.cell hc13 (p := ⟨w7.heap.size, 1, none⟩) (by show w7.heap.size < _; omega) (by show w7.heap.size < _ ∨ _ ≤ w7.heap.size; omega)).trans kb4_1_13
  have kb4_2_13' := (Chg.cell hc13 (p := ⟨w7.heap.size, 2, none⟩) (by show w7.heap.size < _; omega) (by show w7.heap.size < _ ∨ _ ≤ w7.heap.size; omega)).trans kb4_2_13
  have kb4_3_13' := (Chg.cell hc13 (p := ⟨w7.heap.size, 3, none⟩) (by show w7.heap.size < _; omega) (by show w7.heap.size < _ ∨ _ ≤ w7.heap.size; omega)).trans kb4_3_13
  have kb4_4_13' := (Chg.cell hc13 (p := ⟨w7.heap.size, 4, none⟩) (by show w7.heap.size < _; omega) (by show w7.heap.size < _ ∨ _ ≤ w7.heap.size; omega)).trans kb4_4_13
  have kb4_5_13' := (Chg.cell hc13 (p := ⟨w7.heap.size, 5, none⟩) (by show w7.heap.size < _; omega) (by show w7.heap.size < _ ∨ _ ≤ w7.heap.size; omega)).trans kb4_5_13
  have kb4_6_13' := (Chg.cell hc13 (p := ⟨w7.heap.size, 6, none⟩) (by show w7.heap.size < _; omega) (by show w7.heap.size < _ ∨ _ ≤ w7.heap.size; omega)).trans kb4_6_13
  have kb4_7_13' := (Chg.cell hc13 (p := ⟨w7.heap.size, 7, none⟩) (by show w7.heap.size < _; omega) (by show w7.heap.size < _ ∨ _ ≤ w7.heap.size; omega)).trans kb4_7_13
  have hB13' := Chg.below hB13 hc13 (by omega) hB13.size
  have hz13' : W13.heap.size ≤ w13.heap.size := hc13.size
  have hl_b1_13' : w.heap.size < w13.heap.size := by omega
  have hl_b2_13' : w4.heap.size < w13.heap.size := by omega
  have hl_b3_13' : w5.heap.size < w13.heap.size := by omega
  have hl_b4_13' : w7.heap.size < w13.heap.size := by omega
  clear ow0_4_0_13 ow0_4_1_13 ot5_0_13 ot5_1_13 ot6_0_13 og0_7_0_13 og0_7_1_13 kb1_0_13 kb1_1_13 kb1_2_13 kb1_3_13 kb1_4_13 kb1_5_13 kb1_6_13 kb1_7_13 kb2_0_13 kb2_1_13 kb2_2_13 kb2_3_13 kb2_4_13 kb2_5_13 kb2_6_13 kb2_7_13 kb3_0_13 kb3_1_13 kb3_2_13 kb3_3_13 kb3_4_13 kb3_5_13 kb3_6_13 kb3_7_13 kb4_0_13 kb4_1_13 kb4_2_13 kb4_3_13 kb4_4_13 kb4_5_13 kb4_6_13 kb4_7_13
  go_wp2_with fail
  first | refine name_world ?_ | refine name_wp ?_
  intro W14 hW14
  have hp14 : Below w13.heap.size w13 W14 := by rw [hW14]; repeat' (first | (with_reducible exact Below.refl _ _) | (with_reducible refine Below.alloc ?_ ?_ _) | (with_reducible refine Below.setCell ?_ ?_ _) | (with_reducible refine Below.drew ?_) | (simp; done) | (simp; omega))
  have ow0_4_0_14 := Row2.below ow0_4_0_13' hp14 (by omega)
  have ow0_4_1_14 := Row2.below ow0_4_1_13' hp14 (by omega)
  have ot5_0_14 := Row2.below hm0_13 hp14 (by omega)
  have ot5_1_14 := Row2.below hm1_13 hp14 (by omega)
  have ot6_0_14 := Row2.below ot6_0_13' hp14 (by omega)
  have og0_7_0_14 := Row2.below og0_7_0_13' hp14 (by omega)
  have og0_7_1_14 := Row2.below og0_7_1_13' hp14 (by omega)
  have kb1_0_14 := (hp14.cell (p := ⟨w.heap.size, 0, none⟩) (by show w.heap.size < _; omega)).trans kb1_0_13'
  have kb1_1_14 := (hp14.cell (p := ⟨w.heap.size, 1, none⟩) (by show w.heap.size < _; omega)).trans kb1_1_13'
  have kb1_2_14 := (hp14.cell (p := ⟨w.heap.size, 2, none⟩) (by show w.heap.size < _; omega)).trans kb1_2_13'
  have kb1_3_14 := (hp14.cell (p := ⟨w.heap.size, 3, none⟩) (by show w.heap.size < _; omega)).trans kb1_3_13'
  have kb1_4_14 := (hp14.cell (p := ⟨w.heap.size, 4, none⟩) (by show w.heap.size < _; omega)).trans kb1_4_13'
  have kb1_5_14 := (hp14.cell (p := ⟨w.heap.size, 5, none⟩) (by show w.heap.size < _; omega)).trans kb1_5_13'
  have kb1_6_14 := (hp14.cell (p := ⟨w.heap.size, 6, none⟩) (by show w.heap.size < _; omega)).trans kb1_6_13'
  have kb1_7_14 := (hp14.cell (p := ⟨w.heap.size, 7, none⟩) (by show w.heap.size < _; omega)).trans kb1_7_13'
  have kb2_0_14 := (hp14.cell (p := ⟨w4.heap.size, 0, none⟩) (by show w4.heap.size < _; omega)).trans kb2_0_13'
  have kb2_1_14 := (hp14.cell (p := ⟨w4.heap.size, 1, none⟩) (by show w4.heap.size < _; omega)).trans kb2_1_13'
  have kb2_2_14 := (hp14.cell (p := ⟨w4.heap.size, 2, none⟩) (by show w4.heap.size < _; omega)).trans kb2_2_13'
  have kb2_3_14 := (hp14.cell (p := ⟨w4.heap.size, 3, none⟩) (by show w4.heap.size < _; omega)).trans kb2_3_13'
  have kb2_4_14 := (hp14.cell (p := ⟨w4.heap.size, 4, none⟩) (by show w4.heap.size < _; omega)).trans kb2_4_13'
  have kb2_5_14 := (hp14.cell (p := ⟨w4.heap.size, 5, none⟩) (by show w4.heap.size < _; omega)).trans kb2_5_13'
  have kb2_6_14 := (hp14.cell (p := ⟨w4.heap.size, 6, none⟩) (by show w4.heap.size < _; omega)).trans kb2_6_13'
  have kb2_7_14 := (hp14.cell (p := ⟨w4.heap.size, 7, none⟩) (by show w4.heap.size < _; omega)).trans kb2_7_13'
  have kb3_0_14 := (hp14.cell (p := ⟨w5.heap.size, 0, none⟩) (by show w5.heap.size < _; omega)).trans kb3_0_13'
  have kb3_1_14 := (hp14.cell (p := ⟨w5.heap.size, 1, none⟩) (by show w5.heap.size < _; omega)).trans kb3_1_13'
  have kb3_2_14 := (hp14.cell (p := ⟨w5.heap.size, 2, none⟩) (by show w5.heap.size < _; omega)).trans kb3_2_13'
  have kb3_3_14 := (hp14.cell (p := ⟨w5.heap.size, 3, none⟩) (by show w5.heap.size < _; omega)).trans kb3_3_13'
  have kb3_4_14 := (hp14.cell (p := ⟨w5.heap.size, 4, none⟩) (by show w5.heap.size < _; omega)).trans kb3_4_13'
  have kb3_5_14 := (hp14.cell (p := ⟨w5.heap.size, 5, none⟩) (by show w5.heap.size < _; omega)).trans kb3_5_13'
  have kb3_6_14 := (hp14.cell (p := ⟨w5.heap.size, 6, none⟩) (by show w5.heap.size < _; omega)).trans kb3_6_13'
  have kb3_7_14 := (hp14.cell (p := ⟨w5.heap.size, 7, none⟩) (by show w5.heap.size < _; omega)).trans kb3_7_13'
  have kb4_0_14 := (hp14.cell (p := ⟨w7.heap.size, 0, none⟩) (by show w7.heap.size < _; omega)).trans kb4_0_13'
  have kb4_1_14 := (hp14.cell (p := ⟨w7.heap.size, 1, none⟩) (by show w7.heap.size < _; omega)).trans kb4_1_13'
  have kb4_2_14 := (hp14.cell (p := ⟨w7.heap.size, 2, none⟩) (by show w7.heap.size < _; omega)).trans kb4_2_13'
  have kb4_3_14 := (hp14.cell (p := ⟨w7.heap.size, 3, none⟩) (by show w7.heap.size < _; omega)).trans kb4_3_13'
  have kb4_4_14 := (hp14.cell (p := ⟨w7.heap.size, 4, none⟩) (by show w7.heap.size < _; omega)).trans kb4_4_13'
  have kb4_5_14 := (hp14.cell (p := ⟨w7.heap.size, 5, none⟩) (by show w7.heap.size < _; omega)).trans kb4_5_13'
  have kb4_6_14 := (hp14.cell (p := ⟨w7.heap.size, 6, none⟩) (by show w7.heap.size < _; omega)).trans kb4_6_13'
  have kb4_7_14 := (hp14.cell (p := ⟨w7.heap.size, 7, none⟩) (by show w7.heap.size < _; omega)).trans kb4_7_13'
  have hB14 := hB13'.trans (hp14.mono hB13'.size)
  have hz14 : w13.heap.size ≤ W14.heap.size := hp14.size
  have hl_b1_14 : w.heap.size < W14.heap.size := by omega
  have hl_b2_14 : w4.heap.size < W14.heap.size := by omega
  have hl_b3_14 : w5.heap.size < W14.heap.size := by omega
  have hl_b4_14 : w7.heap.size < W14.heap.size := by omega
  have HW14 := Lib.hid hW14; clear hW14
  clear ow0_4_0_13' ow0_4_1_13' hm0_13 hm1_13 ot6_0_13' og0_7_0_13' og0_7_1_13' kb1_0_13' kb1_1_13' kb1_2_13' kb1_3_13' kb1_4_13' kb1_5_13' kb1_6_13' kb1_7_13' kb2_0_13' kb2_1_13' kb2_2_13' kb2_3_13' kb2_4_13' kb2_5_13' kb2_6_13' kb2_7_13' kb3_0_13' kb3_1_13' kb3_2_13' kb3_3_13' kb3_4_13' kb3_5_13' kb3_6_13' kb3_7_13' kb4_0_13' kb4_1_13' kb4_2_13' kb4_3_13' kb4_4_13' kb4_5_13' kb4_6_13' kb4_7_13'
  refine (markIntS_2 A'6 c'6 _ _ (l2) (1 + (3 * (v0.book.evs.length) + 3 * (v0.rights.length))) _ (by omega) _ ot6_0_14 (by first | omega | (simp; omega))).mono ?_
  rintro e w14 ⟨rfl, hm0_14, hc14⟩
  try simp only [Vg.val]
  have ow0_4_0_14' := Row2.chg ow0_4_0_14 hc14 (by omega)
  have ow0_4_1_14' := Row2.chg ow0_4_1_14 hc14 (by omega)
  have ot5_0_14' := Row2.chg ot5_0_14 hc14 (by omega)
  have ot5_1_14' := Row2.chg ot5_1_14 hc14 (by omega)
  have og0_7_0_14' := Row2.chg og0_7_0_14 hc14 (by omega)
  have og0_7_1_14' := Row2.chg og0_7_1_14 hc14 (by omega)
  have kb1_0_14' := (Chg.cell hc14 (p := ⟨w.heap.size, 0, none⟩) (by show w.heap.size < _; omega) (by show w.heap.size < _ ∨ _ ≤ w.heap.size; omega)).trans kb1_0_14
  have kb1_1_14' := (Chg.cell hc14 (p := ⟨w.heap.size, 1, none⟩) (by show w.heap.size < _; omega) (by show w.heap.size < _ ∨ _ ≤ w.heap.size; omega)).trans kb1_1_14
  have kb1_2_14' := (Chg.cell hc14 (p := ⟨w.heap.size, 2, none⟩) (by show w.heap.size < _; omega) (by show w.heap.size < _ ∨ _ ≤ w.heap.size; omega)).trans kb1_2_14
  have kb1_3_14' := (Chg.cell hc14 (p := ⟨w.heap.size, 3, none⟩) (by show w.heap.size < _; omega) (by show w.heap.size < _ ∨ _ ≤ w.heap.size; omega)).trans kb1_3_14
  have kb1_4_14' := (Chg.cell hc14 (p := ⟨w.heap.size, 4, none⟩) (by show w.heap.size < _; omega) (by show w.heap.size < _ ∨ _ ≤ w.heap.size; omega)).trans kb1_4_14
  have kb1_5_14' := (Chg.cell hc14 (p := ⟨w.heap.size, 5, none⟩) (by show w.heap.size < _; omega) (by show w.heap.size < _ ∨ _ ≤ w.heap.size; omega)).trans kb1_5_14
  have kb1_6_14' := (Chg.cell hc14 (p := ⟨w.heap.size, 6, none⟩) (by show w.heap.size < _; omega) (by show w.heap.size < _ ∨ _ ≤ w.heap.size; omega)).trans kb1_6_14
  have kb1_7_14' := (Chg.cell hc14 (p := ⟨w.heap.size, 7, none⟩) (by show w.heap.size < _; omega) (by show w.heap.size < _ ∨ _ ≤ w.heap.size; omega)).trans kb1_7_14
  have kb2_0_14' := (Chg.cell hc14 (p := ⟨w4.heap.size, 0, none⟩) (by show w4.heap.size < _; omega) (by show w4.heap.size < _ ∨ _ ≤ w4.heap.size; omega)).trans kb2_0_14
  have kb2_1_14' := (Chg.cell hc14 (p := ⟨w4.heap.size, 1, none⟩) (by show w4.heap.size < _; omega) (by show w4.heap.size < _ ∨ _ ≤ w4.heap.size; omega)).trans kb2_1_14
  have kb2_2_14' := (Chg.cell hc14 (p := ⟨w4.heap.size, 2, none⟩) (by show w4.heap.size < _; omega) (by show w4.heap.size < _ ∨ _ ≤ w4.heap.size; omega)).trans kb2_2_14
  have kb2_3_14' := (Chg.cell hc14 (p := ⟨w4.heap.size, 3, none⟩) (by show w4.heap.size < _; omega) (by show w4.heap.size < _ ∨ _ ≤ w4.heap.size; omega)).trans kb2_3_14
  have kb2_4_14' := (Chg.cell hc14 (p := ⟨w4.heap.size, 4, none⟩) (by show w4.heap.size < _; omega) (by show w4.heap.size < _ ∨ _ ≤ w4.heap.size; omega)).trans kb2_4_14
  have kb2_5_14' := (Chg.cell hc14 (p := ⟨w4.heap.size, 5, none⟩) (by show w4.heap.size < _; omega) (by show w4.heap.size < _ ∨ _ ≤ w4.heap.size; omega)).trans kb2_5_14
  have kb2_6_14' := (Chg.cell hc14 (p := ⟨w4.heap.size, 6, none⟩) (by show w4.heap.size < _; omega) (by show w4.heap.size < _ ∨ _ ≤ w4.heap.size; omega)).trans kb2_6_14
  have kb2_7_14' := (Chg.cell hc14 (p := ⟨w4.heap.size, 7, none⟩) (by show w4.heap.size < _; omega) (by show w4.heap.size < _ ∨ _ ≤ w4.heap.size; omega)).trans kb2_7_14
  have kb3_0_14' := (Chg.cell hc14 (p := ⟨w5.heap.size, 0, none⟩) (by show w5.heap.size < _; omega) (by show w5.heap.size < _ ∨ _ ≤ w5.heap.size; omega)).trans kb3_0_14
  have kb3_1_14' := (Chg.cell hc14 (p := ⟨w5.heap.size, 1, none⟩) (by show w5.heap.size < _; omega) (by show w5.heap.size < _ ∨ _ ≤ w5.heap.size; omega)).trans kb3_1_14
  have kb3_2_14' := (Chg.cell hc14 (p := ⟨w5.heap.size, 2, none⟩) (by show w5.heap.size < _; omega) (by show w5.heap.size < _ ∨ _ ≤ w5.heap.size; omega)).trans kb3_2_14
  have kb3_3_14' := (Chg.cell hc14 (p := ⟨w5.heap.size, 3, none⟩) (by show w5.heap.size < _; omega) (by show w5.heap.size < _ ∨ _ ≤ w5.heap.size; omega)).trans kb3_3_14
  have kb3_4_14' := (Chg.cell hc14 (p := ⟨w5.heap.size, 4, none⟩) (by show w5.heap.size < _; omega) (by show w5.heap.size < _ ∨ _ ≤ w5.heap.size; omega)).trans kb3_4_14
  have kb3_5_14' := (Chg.cell hc14 (p := ⟨w5.heap.size, 5, none⟩) (by show w5.heap.size < _; omega) (by show w5.heap.size < _ ∨ _ ≤ w5.heap.size; omega)).trans kb3_5_14
  have kb3_6_14' := (Chg.cell hc14 (p := ⟨w5.heap.size, 6, none⟩) (by show w5.heap.size < _; omega) (by show w5.heap.size < _ ∨ _ ≤ w5.heap.size; omega)).trans kb3_6_14
  have kb3_7_14' := (Chg.cell hc14 (p := ⟨w5.heap.size, 7, none⟩) (by show w5.heap.size < _; omega) (by show w5.heap.size < _ ∨ _ ≤ w5.heap.size; omega)).trans kb3_7_14
  have kb4_0_14' := (Chg.cell hc14 (p := ⟨w7.heap.size, 0, none⟩) (by show w7.heap.size < _; omega) (by show w7.heap.size < _ ∨ _ ≤ w7.heap.size; omega)).trans kb4_0_14
  have kb4_1_14' := (Chg.cell hc14 (p := ⟨w7.heap.size, 1, none⟩) (by show w7.heap.size < _; omega) (by show w7.heap.size < _ ∨ _ ≤ w7.heap.size; omega)).trans kb4_1_14
  have kb4_2_14' := (Chg.cell hc14 (p := ⟨w7.heap.size, 2, none⟩) (by show w7.heap.size < _; omega) (by show w7.heap.size < _ ∨ _ ≤ w7.heap.size; omega)).trans kb4_2_14
  have kb4_3_14' := (Chg.cell hc14 (p := ⟨w7.heap.size, 3, none⟩) (by show w7.heap.size < _; omega) (by show w7.heap.size < _ ∨ _ ≤ w7.heap.size; omega)).trans kb4_3_14
  have kb4_4_14' := (Chg.cell hc14 (p := ⟨w7.heap.size, 4, none⟩) (by show w7.heap.size < _; omega) (by show w7.heap.size < _ ∨ _ ≤ w7.heap.size; omega)).trans kb4_4_14
  have kb4_5_14' := (Chg.cell hc14 (p := ⟨w7.heap.size, 5, none⟩) (by show w7.heap.size < _; omega) (by show w7.heap.size < _ ∨ _ ≤ w7.heap.size; omega)).trans kb4_5_14
  have kb4_6_14' := (Chg.cell hc14 (p := ⟨w7.heap.size, 6, none⟩) (by show w7.heap.size < _; omega) (by show w7.heap.size < _ ∨ _ ≤ w7.heap.size; omega)).trans kb4_6_14
  have kb4_7_14' := (Chg.cell hc14 (p := ⟨w7.heap.size, 7, none⟩) (by show w7.heap.size < _; omega) (by show w7.heap.size < _ ∨ _ ≤ w7.heap.size; omega)).trans kb4_7_14
  have hB14' := Chg.below hB14 hc14 (by omega) hB14.size
  have hz14' : W14.heap.size ≤ w14.heap.size := hc14.size
  have hl_b1_14' : w.heap.size < w14.heap.size := by omega
  have hl_b2_14' : w4.heap.size < w14.heap.size := by omega
  have hl_b3_14' : w5.heap.size < w14.heap.size := by omega
  have hl_b4_14' : w7.heap.size < w14.heap.size := by omega
  clear ow0_4_0_14 ow0_4_1_14 ot5_0_14 ot5_1_14 ot6_0_14 og0_7_0_14 og0_7_1_14 kb1_0_14 kb1_1_14 kb1_2_14 kb1_3_14 kb1_4_14 kb1_5_14 kb1_6_14 kb1_7_14 kb2_0_14 kb2_1_14 kb2_2_14 kb2_3_14 kb2_4_14 kb2_5_14 kb2_6_14 kb2_7_14 kb3_0_14 kb3_1_14 kb3_2_14 kb3_3_14 kb3_4_14 kb3_5_14 kb3_6_14 kb3_7_14 kb4_0_14 kb4_1_14 kb4_2_14 kb4_3_14 kb4_4_14 kb4_5_14 kb4_6_14 kb4_7_14
  go_wp2_with fail
  first | refine name_world ?_ | refine name_wp ?_
  intro W15 hW15
  have hp15 : Below w14.heap.size w14 W15 := by rw [hW15]; repeat' (first | (with_reducible exact Below.refl _ _) | (with_reducible refine Below.alloc ?_ ?_ _) | (with_reducible refine Below.setCell ?_ ?_ _) | (with_reducible refine Below.drew ?_) | (simp; done) | (simp; omega))
  have ow0_4_0_15 := Row2.below ow0_4_0_14' hp15 (by omega)
  have ow0_4_1_15 := Row2.below ow0_4_1_14' hp15 (by omega)
  have ot5_0_15 := Row2.below ot5_0_14' hp15 (by omega)
  have ot5_1_15 := Row2.below ot5_1_14' hp15 (by omega)
  have ot6_0_15 := Row2.below hm0_14 hp15 (by omega)
  have og0_7_0_15 := Row2.below og0_7_0_14' hp15 (by omega)
  have og0_7_1_15 := Row2.below og0_7_1_14' hp15 (by omega)
  have kb1_0_15 := (hp15.cell (p := ⟨w.heap.size, 0, none⟩) (by show w.heap.size < _; omega)).trans kb1_0_14'
  have kb1_1_15 := (hp15.cell (p := ⟨w.heap.size, 1, none⟩) (by show w.heap.size < _; omega)).trans kb1_1_14'
  have kb1_2_15 := (hp15.cell (p := ⟨w.heap.size, 2, none⟩) (by show w.heap.size < _; omega)).trans kb1_2_14'
  have kb1_3_15 := (hp15.cell (p := ⟨w.heap.size, 3, none⟩) (by show w.heap.size < _; omega)).trans kb1_3_14'
  have kb1_4_15 := (hp15.cell (p := ⟨w.heap.size, 4, none⟩) (by show w.heap.size < _; omega)).trans kb1_4_14'
  have kb1_5_15 := (hp15.cell (p := ⟨w.heap.size, 5, none⟩) (by show w.heap.size < _; omega)).trans kb1_5_14'
  have kb1_6_15 := (hp15.cell (p := ⟨w.heap.size, 6, none⟩) (by show w.heap.size < _; omega)).trans kb1_6_14'
  have kb1_7_15 := (hp15.cell (p := ⟨w.heap.size, 7, none⟩) (by show w.heap.size < _; omega)).trans kb1_7_14'
  have kb2_0_15 := (hp15.cell (p := ⟨w4.heap.size, 0, none⟩) (by show w4.heap.size < _; omega)).trans kb2_0_14'
  have kb2_1_15 := (hp15.cell (p := ⟨w4.heap.size, 1, none⟩) (by show w4.heap.size < _; omega)).trans kb2_1_14'
  have kb2_2_15 := (hp15.cell (p := ⟨w4.heap.size, 2, none⟩) (by show w4.heap.size < _; omega)).trans kb2_2_14'
  have kb2_3_15 := (hp15.cell (p := ⟨w4.heap.size, 3, none⟩) (by show w4.heap.size < _; omega)).trans kb2_3_14'
  have kb2_4_15 := (hp15.cell (p := ⟨w4.heap.size, 4, none⟩) (by show w4.heap.size < _; omega)).trans kb2_4_14'
  have kb2_5_15 := (hp15.cell (p := ⟨w4.heap.size, 5, none⟩) (by show w4.heap.size < _; omega)).trans kb2_5_14'
  have kb2_6_15 := (hp15.cell (p := ⟨w4.heap.size, 6, none⟩) (by show w4.heap.size < _; omega)).trans kb2_6_14'
  have kb2_7_15 := (hp15.cell (p := ⟨w4.heap.size, 7, none⟩) (by show w4.heap.size < _; omega)).trans kb2_7_14'
  have kb3_0_15 := (hp15.cell (p := ⟨w5.heap.size, 0, none⟩) (by show w5.heap.size < _; omega)).trans kb3_0_14'
  have kb3_1_15 := (hp15.cell (p := ⟨w5.heap.size, 1, none⟩) (by show w5.heap.size < _; omega)).trans kb3_1_14'
  have kb3_2_15 := (hp15.cell (p := ⟨w5.heap.size, 2, none⟩) (by show w5.heap.size < _; omega)).trans kb3_2_14'
  have kb3_3_15 := (hp15.cell (p := ⟨w5.heap.size, 3, none⟩) (by show w5.heap.size < _; omega)).trans kb3_3_14'
  have kb3_4_15 := (hp15.cell (p := ⟨w5.heap.size, 4, none⟩) (by show w5.heap.size < _; omega)).trans kb3_4_14'
  have kb3_5_15 := (hp15.cell (p := ⟨w5.heap.size, 5, none⟩) (by show w5.heap.size < _; omega)).trans kb3_5_14'
  have kb3_6_15 := (hp15.cell (p := ⟨w5.heap.size, 6, none⟩) (by show w5.heap.size < _; omega)).trans kb3_6_14'
  have kb3_7_15 := (hp15.cell (p := ⟨w5.heap.size, 7, none⟩) (by show w5.heap.size < _; omega)).trans kb3_7_14'
  have kb4_0_15 := (hp15.cell (p := ⟨w7.heap.size, 0, none⟩) (by show w7.heap.size < _; omega)).trans kb4_0_14'
  have kb4_1_15 := (hp15.cell (p := ⟨w7.heap.size, 1, none⟩) (by show w7.heap.size < _; omega)).trans kb4_1_14'
  have kb4_2_15 := (hp15.cell (p := ⟨w7.heap.size, 2, none⟩) (by show w7.heap.size < _; omega)).trans kb4_2_14'
  have kb4_3_15 := (hp15.cell (p := ⟨w7.heap.size, 3, none⟩) (by show w7.heap.size < _; omega)).trans kb4_3_14'
  have kb4_4_15 := (hp15.cell (p := ⟨w7.heap.size, 4, none⟩) (by show w7.heap.size < _; omega)).trans kb4_4_14'
  have kb4_5_15 := (hp15.cell (p := ⟨w7.heap.size, 5, none⟩) (by show w7.heap.size < _; omega)).trans kb4_5_14'
  have kb4_6_15 := (hp15.cell (p := ⟨w7.heap.size, 6, none⟩) (by show w7.heap.size < _; omega)).trans kb4_6_14'
  have kb4_7_15 := (hp15.cell (p := ⟨w7.heap.size, 7, none⟩) (by show w7.heap.size < _; omega)).trans kb4_7_14'
  have hB15 := hB14'.trans (hp15.mono hB14'.size)
  have hz15 : w14.heap.size ≤ W15.heap.size := hp15.size
  have hl_b1_15 : w.heap.size < W15.heap.size := by omega
  have hl_b2_15 : w4.heap.size < W15.heap.size := by omega
  have hl_b3_15 : w5.heap.size < W15.heap.size := by omega
  have hl_b4_15 : w7.heap.size < W15.heap.size := by omega
  have HW15 := Lib.hid hW15; clear hW15
  clear ow0_4_0_14' ow0_4_1_14' ot5_0_14' ot5_1_14' hm0_14 og0_7_0_14' og0_7_1_14' kb1_0_14' kb1_1_14' kb1_2_14' kb1_3_14' kb1_4_14' kb1_5_14' kb1_6_14' kb1_7_14' kb2_0_14' kb2_1_14' kb2_2_14' kb2_3_14' kb2_4_14' kb2_5_14' kb2_6_14' kb2_7_14' kb3_0_14' kb3_1_14' kb3_2_14' kb3_3_14' kb3_4_14' kb3_5_14' kb3_6_14' kb3_7_14' kb4_0_14' kb4_1_14' kb4_2_14' kb4_3_14' kb4_4_14' kb4_5_14' kb4_6_14' kb4_7_14'
  refine (eqVillage_same Ar0_7 cr0_7 Rr0_7 dr0_7 Ar0_4 cr0_4 Rr0_4 dr0_4 ((vPass v0 a1 l2).1) _ og0_7_0_15.rd og0_7_1_15.rd ow0_4_0_15.rd ow0_4_1_15.rd).mono ?_
  rintro e w15 ⟨rfl, hb15⟩
  try simp only [Vg.val]
  have ow0_4_0_15' := Row2.below ow0_4_0_15 hb15 (by omega)
  have ow0_4_1_15' := Row2.below ow0_4_1_15 hb15 (by omega)
  have ot5_0_15' := Row2.below ot5_0_15 hb15 (by omega)
  have ot5_1_15' := Row2.below ot5_1_15 hb15 (by omega)
  have ot6_0_15' := Row2.below ot6_0_15 hb15 (by omega)
  have og0_7_0_15' := Row2.below og0_7_0_15 hb15 (by omega)
  have og0_7_1_15' := Row2.below og0_7_1_15 hb15 (by omega)
  have kb1_0_15' := (hb15.cell (p := ⟨w.heap.size, 0, none⟩) (by show w.heap.size < _; omega)).trans kb1_0_15
  have kb1_1_15' := (hb15.cell (p := ⟨w.heap.size, 1, none⟩) (by show w.heap.size < _; omega)).trans kb1_1_15
  have kb1_2_15' := (hb15.cell (p := ⟨w.heap.size, 2, none⟩) (by show w.heap.size < _; omega)).trans kb1_2_15
  have kb1_3_15' := (hb15.cell (p := ⟨w.heap.size, 3, none⟩) (by show w.heap.size < _; omega)).trans kb1_3_15
  have kb1_4_15' := (hb15.cell (p := ⟨w.heap.size, 4, none⟩) (by show w.heap.size < _; omega)).trans kb1_4_15
  have kb1_5_15' := (hb15.cell (p := ⟨w.heap.size, 5, none⟩) (by show w.heap.size < _; omega)).trans kb1_5_15
  have kb1_6_15' := (hb15.cell (p := ⟨w.heap.size, 6, none⟩) (by show w.heap.size < _; omega)).trans kb1_6_15
  have kb1_7_15' := (hb15.cell (p := ⟨w.heap.size, 7, none⟩) (by show w.heap.size < _; omega)).trans kb1_7_15
  have kb2_0_15' := (hb15.cell (p := ⟨w4.heap.size, 0, none⟩) (by show w4.heap.size < _; omega)).trans kb2_0_15
  have kb2_1_15' := (hb15.cell (p := ⟨w4.heap.size, 1, none⟩) (by show w4.heap.size < _; omega)).trans kb2_1_15
  have kb2_2_15' := (hb15.cell (p := ⟨w4.heap.size, 2, none⟩) (by show w4.heap.size < _; omega)).trans kb2_2_15
  have kb2_3_15' := (hb15.cell (p := ⟨w4.heap.size, 3, none⟩) (by show w4.heap.size < _; omega)).trans kb2_3_15
  have kb2_4_15' := (hb15.cell (p := ⟨w4.heap.size, 4, none⟩) (by show w4.heap.size < _; omega)).trans kb2_4_15
  have kb2_5_15' := (hb15.cell (p := ⟨w4.heap.size, 5, none⟩) (by show w4.heap.size < _; omega)).trans kb2_5_15
  have kb2_6_15' := (hb15.cell (p := ⟨w4.heap.size, 6, none⟩) (by show w4.heap.size < _; omega)).trans kb2_6_15
  have kb2_7_15' := (hb15.cell (p := ⟨w4.heap.size, 7, none⟩) (by show w4.heap.size < _; omega)).trans kb2_7_15
  have kb3_0_15' := (hb15.cell (p := ⟨w5.heap.size, 0, none⟩) (by show w5.heap.size < _; omega)).trans kb3_0_15
  have kb3_1_15' := (hb15.cell (p := ⟨w5.heap.size, 1, none⟩) (by show w5.heap.size < _; omega)).trans kb3_1_15
  have kb3_2_15' := (hb15.cell (p := ⟨w5.heap.size, 2, none⟩) (by show w5.heap.size < _; omega)).trans kb3_2_15
  have kb3_3_15' := (hb15.cell (p := ⟨w5.heap.size, 3, none⟩) (by show w5.heap.size < _; omega)).trans kb3_3_15
  have kb3_4_15' := (hb15.cell (p := ⟨w5.heap.size, 4, none⟩) (by show w5.heap.size < _; omega)).trans kb3_4_15
  have kb3_5_15' := (hb15.cell (p := ⟨w5.heap.size, 5, none⟩) (by show w5.heap.size < _; omega)).trans kb3_5_15
  have kb3_6_15' := (hb15.cell (p := ⟨w5.heap.size, 6, none⟩) (by show w5.heap.size < _; omega)).trans kb3_6_15
  have kb3_7_15' := (hb15.cell (p := ⟨w5.heap.size, 7, none⟩) (by show w5.heap.size < _; omega)).trans kb3_7_15
  have kb4_0_15' := (hb15.cell (p := ⟨w7.heap.size, 0, none⟩) (by show w7.heap.size < _; omega)).trans kb4_0_15
  have kb4_1_15' := (hb15.cell (p := ⟨w7.heap.size, 1, none⟩) (by show w7.heap.size < _; omega)).trans kb4_1_15
  have kb4_2_15' := (hb15.cell (p := ⟨w7.heap.size, 2, none⟩) (by show w7.heap.size < _; omega)).trans kb4_2_15
  have kb4_3_15' := (hb15.cell (p := ⟨w7.heap.size, 3, none⟩) (by show w7.heap.size < _; omega)).trans kb4_3_15
  have kb4_4_15' := (hb15.cell (p := ⟨w7.heap.size, 4, none⟩) (by show w7.heap.size < _; omega)).trans kb4_4_15
  have kb4_5_15' := (hb15.cell (p := ⟨w7.heap.size, 5, none⟩) (by show w7.heap.size < _; omega)).trans kb4_5_15
  have kb4_6_15' := (hb15.cell (p := ⟨w7.heap.size, 6, none⟩) (by show w7.heap.size < _; omega)).trans kb4_6_15
  have kb4_7_15' := (hb15.cell (p := ⟨w7.heap.size, 7, none⟩) (by show w7.heap.size < _; omega)).trans kb4_7_15
  have hB15' := hB15.trans (hb15.mono hB15.size)
  have hz15' : W15.heap.size ≤ w15.heap.size := hb15.size
  have hl_b1_15' : w.heap.size < w15.heap.size := by omega
  have hl_b2_15' : w4.heap.size < w15.heap.size := by omega
  have hl_b3_15' : w5.heap.size < w15.heap.size := by omega
  have hl_b4_15' : w7.heap.size < w15.heap.size := by omega
  clear ow0_4_0_15 ow0_4_1_15 ot5_0_15 ot5_1_15 ot6_0_15 og0_7_0_15 og0_7_1_15 kb1_0_15 kb1_1_15 kb1_2_15 kb1_3_15 kb1_4_15 kb1_5_15 kb1_6_15 kb1_7_15 kb2_0_15 kb2_1_15 kb2_2_15 kb2_3_15 kb2_4_15 kb2_5_15 kb2_6_15 kb2_7_15 kb3_0_15 kb3_1_15 kb3_2_15 kb3_3_15 kb3_4_15 kb3_5_15 kb3_6_15 kb3_7_15 kb4_0_15 kb4_1_15 kb4_2_15 kb4_3_15 kb4_4_15 kb4_5_15 kb4_6_15 kb4_7_15
  go_wp2_with fail
  first | refine name_world ?_ | refine name_wp ?_
  intro W16 hW16
  have hp16 : Below w15.heap.size w15 W16 := by rw [hW16]; repeat' (first | (with_reducible exact Below.refl _ _) | (with_reducible refine Below.alloc ?_ ?_ _) | (with_reducible refine Below.setCell ?_ ?_ _) | (with_reducible refine Below.drew ?_) | (simp; done) | (simp; omega))
  have ow0_4_0_16 := Row2.below ow0_4_0_15' hp16 (by omega)
  have ow0_4_1_16 := Row2.below ow0_4_1_15' hp16 (by omega)
  have ot5_0_16 := Row2.below ot5_0_15' hp16 (by omega)
  have ot5_1_16 := Row2.below ot5_1_15' hp16 (by omega)
  have ot6_0_16 := Row2.below ot6_0_15' hp16 (by omega)
  have og0_7_0_16 := Row2.below og0_7_0_15' hp16 (by omega)
  have og0_7_1_16 := Row2.below og0_7_1_15' hp16 (by omega)
  have kb1_0_16 := (hp16.cell (p := ⟨w.heap.size, 0, none⟩) (by show w.heap.size < _; omega)).trans kb1_0_15'
  have kb1_1_16 := (hp16.cell (p := ⟨w.heap.size, 1, none⟩) (by show w.heap.size < _; omega)).trans kb1_1_15'
  have kb1_2_16 := (hp16.cell (p := ⟨w.heap.size, 2, none⟩) (by show w.heap.size < _; omega)).trans kb1_2_15'
  have kb1_3_16 := (hp16.cell (p := ⟨w.heap.size, 3, none⟩) (by show w.heap.size < _; omega)).trans kb1_3_15'
  have kb1_4_16 := (hp16.cell (p := ⟨w.heap.size, 4, none⟩) (by show w.heap.size < _; omega)).trans kb1_4_15'
  have kb1_5_16 := (hp16.cell (p := ⟨w.heap.size, 5, none⟩) (by show w.heap.size < _; omega)).trans kb1_5_15'
  have kb1_6_16 := (hp16.cell (p := ⟨w.heap.size, 6, none⟩) (by show w.heap.size < _; omega)).trans kb1_6_15'
  have kb1_7_16 := (hp16.cell (p := ⟨w.heap.size, 7, none⟩) (by show w.heap.size < _; omega)).trans kb1_7_15'
  have kb2_0_16 := (hp16.cell (p := ⟨w4.heap.size, 0, none⟩) (by show w4.heap.size < _; omega)).trans kb2_0_15'
  have kb2_1_16 := (hp16.cell (p := ⟨w4.heap.size, 1, none⟩) (by show w4.heap.size < _; omega)).trans kb2_1_15'
  have kb2_2_16 := (hp16.cell (p := ⟨w4.heap.size, 2, none⟩) (by show w4.heap.size < _; omega)).trans kb2_2_15'
  have kb2_3_16 := (hp16.cell (p := ⟨w4.heap.size, 3, none⟩) (by show w4.heap.size < _; omega)).trans kb2_3_15'
  have kb2_4_16 := (hp16.cell (p := ⟨w4.heap.size, 4, none⟩) (by show w4.heap.size < _; omega)).trans kb2_4_15'
  have kb2_5_16 := (hp16.cell (p := ⟨w4.heap.size, 5, none⟩) (by show w4.heap.size < _; omega)).trans kb2_5_15'
  have kb2_6_16 := (hp16.cell (p := ⟨w4.heap.size, 6, none⟩) (by show w4.heap.size < _; omega)).trans kb2_6_15'
  have kb2_7_16 := (hp16.cell (p := ⟨w4.heap.size, 7, none⟩) (by show w4.heap.size < _; omega)).trans kb2_7_15'
  have kb3_0_16 := (hp16.cell (p := ⟨w5.heap.size, 0, none⟩) (by show w5.heap.size < _; omega)).trans kb3_0_15'
  have kb3_1_16 := (hp16.cell (p := ⟨w5.heap.size, 1, none⟩) (by show w5.heap.size < _; omega)).trans kb3_1_15'
  have kb3_2_16 := (hp16.cell (p := ⟨w5.heap.size, 2, none⟩) (by show w5.heap.size < _; omega)).trans kb3_2_15'
  have kb3_3_16 := (hp16.cell (p := ⟨w5.heap.size, 3, none⟩) (by show w5.heap.size < _; omega)).trans kb3_3_15'
  have kb3_4_16 := (hp16.cell (p := ⟨w5.heap.size, 4, none⟩) (by show w5.heap.size < _; omega)).trans kb3_4_15'
  have kb3_5_16 := (hp16.cell (p := ⟨w5.heap.size, 5, none⟩) (by show w5.heap.size < _; omega)).trans kb3_5_15'
  have kb3_6_16 := (hp16.cell (p := ⟨w5.heap.size, 6, none⟩) (by show w5.heap.size < _; omega)).trans kb3_6_15'
  have kb3_7_16 := (hp16.cell (p := ⟨w5.heap.size, 7, none⟩) (by show w5.heap.size < _; omega)).trans kb3_7_15'
  have kb4_0_16 := (hp16.cell (p := ⟨w7.heap.size, 0, none⟩) (by show w7.heap.size < _; omega)).trans kb4_0_15'
  have kb4_1_16 := (hp16.cell (p := ⟨w7.heap.size, 1, none⟩) (by show w7.heap.size < _; omega)).trans kb4_1_15'
  have kb4_2_16 := (hp16.cell (p := ⟨w7.heap.size, 2, none⟩) (by show w7.heap.size < _; omega)).trans kb4_2_15'
  have kb4_3_16 := (hp16.cell (p := ⟨w7.heap.size, 3, none⟩) (by show w7.heap.size < _; omega)).trans kb4_3_15'
  have kb4_4_16 := (hp16.cell (p := ⟨w7.heap.size, 4, none⟩) (by show w7.heap.size < _; omega)).trans kb4_4_15'
  have kb4_5_16 := (hp16.cell (p := ⟨w7.heap.size, 5, none⟩) (by show w7.heap.size < _; omega)).trans kb4_5_15'
  have kb4_6_16 := (hp16.cell (p := ⟨w7.heap.size, 6, none⟩) (by show w7.heap.size < _; omega)).trans kb4_6_15'
  have kb4_7_16 := (hp16.cell (p := ⟨w7.heap.size, 7, none⟩) (by show w7.heap.size < _; omega)).trans kb4_7_15'
  have hB16 := hB15'.trans (hp16.mono hB15'.size)
  have hz16 : w15.heap.size ≤ W16.heap.size := hp16.size
  have hl_b1_16 : w.heap.size < W16.heap.size := by omega
  have hl_b2_16 : w4.heap.size < W16.heap.size := by omega
  have hl_b3_16 : w5.heap.size < W16.heap.size := by omega
  have hl_b4_16 : w7.heap.size < W16.heap.size := by omega
  have HW16 := Lib.hid hW16; clear hW16
  clear ow0_4_0_15' ow0_4_1_15' ot5_0_15' ot5_1_15' ot6_0_15' og0_7_0_15' og0_7_1_15' kb1_0_15' kb1_1_15' kb1_2_15' kb1_3_15' kb1_4_15' kb1_5_15' kb1_6_15' kb1_7_15' kb2_0_15' kb2_1_15' kb2_2_15' kb2_3_15' kb2_4_15' kb2_5_15' kb2_6_15' kb2_7_15' kb3_0_15' kb3_1_15' kb3_2_15' kb3_3_15' kb3_4_15' kb3_5_15' kb3_6_15' kb3_7_15' kb4_0_15' kb4_1_15' kb4_2_15' kb4_3_15' kb4_4_15' kb4_5_15' kb4_6_15' kb4_7_15'
  refine (markVillage_2 Ar0_7 cr0_7 Rr0_7 dr0_7 _ _ ((vPass v0 a1 l2).1) (1) _ (by omega) _ og0_7_0_16 og0_7_1_16 (by first | omega | (simp; omega))).mono ?_
  rintro e w16 ⟨rfl, hm0_16, hm1_16, hc16⟩
  try simp only [Vg.val]
  have ow0_4_0_16' := Row2.chg ow0_4_0_16 hc16 (by omega)
  have ow0_4_1_16' := Row2.chg ow0_4_1_16 hc16 (by omega)
  have ot5_0_16' := Row2.chg ot5_0_16 hc16 (by omega)
  have ot5_1_16' := Row2.chg ot5_1_16 hc16 (by omega)
  have ot6_0_16' := Row2.chg ot6_0_16 hc16 (by omega)
  have kb1_0_16' := (Chg.cell hc16 (p := ⟨w.heap.size, 0, none⟩) (by show w.heap.size < _; omega) (by show w.heap.size < _ ∨ _ ≤ w.heap.size; omega)).trans kb1_0_16
  have kb1_1_16' := (Chg.cell hc16 (p := ⟨w.heap.size, 1, none⟩) (by show w.heap.size < _; omega) (by show w.heap.size < _ ∨ _ ≤ w.heap.size; omega)).trans kb1_1_16
  have kb1_2_16' := (Chg.cell hc16 (p := ⟨w.heap.size, 2, none⟩) (by show w.heap.size < _; omega) (by show w.heap.size < _ ∨ _ ≤ w.heap.size; omega)).trans kb1_2_16
  have kb1_3_16' := (Chg.cell hc16 (p := ⟨w.heap.size, 3, none⟩) (by show w.heap.size < _; omega) (by show w.heap.size < _ ∨ _ ≤ w.heap.size; omega)).trans kb1_3_16
  have kb1_4_16' := (Chg.cell hc16 (p := ⟨w.heap.size, 4, none⟩) (by show w.heap.size < _; omega) (by show w.heap.size < _ ∨ _ ≤ w.heap.size; omega)).trans kb1_4_16
  have kb1_5_16' := (Chg.cell hc16 (p := ⟨w.heap.size, 5, none⟩) (by show w.heap.size < _; omega) (by show w.heap.size < _ ∨ _ ≤ w.heap.size; omega)).trans kb1_5_16
  have kb1_6_16' := (Chg.cell hc16 (p := ⟨w.heap.size, 6, none⟩) (by show w.heap.size < _; omega) (by show w.heap.size < _ ∨ _ ≤ w.heap.size; omega)).trans kb1_6_16
  have kb1_7_16' := (Chg.cell hc16 (p := ⟨w.heap.size, 7, none⟩) (by show w.heap.size < _; omega) (by show w.heap.size < _ ∨ _ ≤ w.heap.size; omega)).trans kb1_7_16
  have kb2_0_16' := (Chg.cell hc16 (p := ⟨w4.heap.size, 0, none⟩) (by show w4.heap.size < _; omega) (by show w4.heap.size < _ ∨ _ ≤ w4.heap.size; omega)).trans kb2_0_16
  have kb2_1_16' := (Chg.cell hc16 (p := ⟨w4.heap.size, 1, none⟩) (by show w4.heap.size < _; omega) (by show w4.heap.size < _ ∨ _ ≤ w4.heap.size; omega)).trans kb2_1_16
  have kb2_2_16' := (Chg.cell hc16 (p := ⟨w4.heap.size, 2, none⟩) (by show w4.heap.size < _; omega) (by show w4.heap.size < _ ∨ _ ≤ w4.heap.size; omega)).trans kb2_2_16
  have kb2_3_16' := (Chg.cell hc16 (p := ⟨w4.heap.size, 3, none⟩) (by show w4.heap.size < _; omega) (by show w4.heap.size < _ ∨ _ ≤ w4.heap.size; omega)).trans kb2_3_16
  have kb2_4_16' := (Chg.cell hc16 (p := ⟨w4.heap.size, 4, none⟩) (by show w4.heap.size < _; omega) (by show w4.heap.size < _ ∨ _ ≤ w4.heap.size; omega)).trans kb2_4_16
  have kb2_5_16' := (Chg.cell hc16 (p := ⟨w4.heap.size, 5, none⟩) (by show w4.heap.size < _; omega) (by show w4.heap.size < _ ∨ _ ≤ w4.heap.size; omega)).trans kb2_5_16
  have kb2_6_16' := (Chg.cell hc16 (p := ⟨w4.heap.size, 6, none⟩) (by show w4.heap.size < _; omega) (by show w4.heap.size < _ ∨ _ ≤ w4.heap.size; omega)).trans kb2_6_16
  have kb2_7_16' := (Chg.cell hc16 (p := ⟨w4.heap.size, 7, none⟩) (by show w4.heap.size < _; omega) (by show w4.heap.size < _ ∨ _ ≤ w4.heap.size; omega)).trans kb2_7_16
  have kb3_0_16' := (Chg.cell hc16 (p := ⟨w5.heap.size, 0, none⟩) (by show w5.heap.size < _; omega) (by show w5.heap.size < _ ∨ _ ≤ w5.heap.size; omega)).trans kb3_0_16
  have kb3_1_16' := (Chg.cell hc16 (p := ⟨w5.heap.size, 1, none⟩) (by show w5.heap.size < _; omega) (by show w5.heap.size < _ ∨ _ ≤ w5.heap.size; omega)).trans kb3_1_16
  have kb3_2_16' := (Chg.cell hc16 (p := ⟨w5.heap.size, 2, none⟩) (by show w5.heap.size < _; omega) (by show w5.heap.size < _ ∨ _ ≤ w5.heap.size; omega)).trans kb3_2_16
  have kb3_3_16' := (Chg.cell hc16 (p := ⟨w5.heap.size, 3, none⟩) (by show w5.heap.size < _; omega) (by show w5.heap.size < _ ∨ _ ≤ w5.heap.size; omega)).trans kb3_3_16
  have kb3_4_16' := (Chg.cell hc16 (p := ⟨w5.heap.size, 4, none⟩) (by show w5.heap.size < _; omega) (by show w5.heap.size < _ ∨ _ ≤ w5.heap.size; omega)).trans kb3_4_16
  have kb3_5_16' := (Chg.cell hc16 (p := ⟨w5.heap.size, 5, none⟩) (by show w5.heap.size < _; omega) (by show w5.heap.size < _ ∨ _ ≤ w5.heap.size; omega)).trans kb3_5_16
  have kb3_6_16' := (Chg.cell hc16 (p := ⟨w5.heap.size, 6, none⟩) (by show w5.heap.size < _; omega) (by show w5.heap.size < _ ∨ _ ≤ w5.heap.size; omega)).trans kb3_6_16
  have kb3_7_16' := (Chg.cell hc16 (p := ⟨w5.heap.size, 7, none⟩) (by show w5.heap.size < _; omega) (by show w5.heap.size < _ ∨ _ ≤ w5.heap.size; omega)).trans kb3_7_16
  have kb4_0_16' := (Chg.cell hc16 (p := ⟨w7.heap.size, 0, none⟩) (by show w7.heap.size < _; omega) (by show w7.heap.size < _ ∨ _ ≤ w7.heap.size; omega)).trans kb4_0_16
  have kb4_1_16' := (Chg.cell hc16 (p := ⟨w7.heap.size, 1, none⟩) (by show w7.heap.size < _; omega) (by show w7.heap.size < _ ∨ _ ≤ w7.heap.size; omega)).trans kb4_1_16
  have kb4_2_16' := (Chg.cell hc16 (p := ⟨w7.heap.size, 2, none⟩) (by show w7.heap.size < _; omega) (by show w7.heap.size < _ ∨ _ ≤ w7.heap.size; omega)).trans kb4_2_16
  have kb4_3_16' := (Chg.cell hc16 (p := ⟨w7.heap.size, 3, none⟩) (by show w7.heap.size < _; omega) (by show w7.heap.size < _ ∨ _ ≤ w7.heap.size; omega)).trans kb4_3_16
  have kb4_4_16' := (Chg.cell hc16 (p := ⟨w7.heap.size, 4, none⟩) (by show w7.heap.size < _; omega) (by show w7.heap.size < _ ∨ _ ≤ w7.heap.size; omega)).trans kb4_4_16
  have kb4_5_16' := (Chg.cell hc16 (p := ⟨w7.heap.size, 5, none⟩) (by show w7.heap.size < _; omega) (by show w7.heap.size < _ ∨ _ ≤ w7.heap.size; omega)).trans kb4_5_16
  have kb4_6_16' := (Chg.cell hc16 (p := ⟨w7.heap.size, 6, none⟩) (by show w7.heap.size < _; omega) (by show w7.heap.size < _ ∨ _ ≤ w7.heap.size; omega)).trans kb4_6_16
  have kb4_7_16' := (Chg.cell hc16 (p := ⟨w7.heap.size, 7, none⟩) (by show w7.heap.size < _; omega) (by show w7.heap.size < _ ∨ _ ≤ w7.heap.size; omega)).trans kb4_7_16
  have hB16' := Chg.below hB16 hc16 (by omega) hB16.size
  have hz16' : W16.heap.size ≤ w16.heap.size := hc16.size
  have hl_b1_16' : w.heap.size < w16.heap.size := by omega
  have hl_b2_16' : w4.heap.size < w16.heap.size := by omega
  have hl_b3_16' : w5.heap.size < w16.heap.size := by omega
  have hl_b4_16' : w7.heap.size < w16.heap.size := by omega
  clear ow0_4_0_16 ow0_4_1_16 ot5_0_16 ot5_1_16 ot6_0_16 og0_7_0_16 og0_7_1_16 kb1_0_16 kb1_1_16 kb1_2_16 kb1_3_16 kb1_4_16 kb1_5_16 kb1_6_16 kb1_7_16 kb2_0_16 kb2_1_16 kb2_2_16 kb2_3_16 kb2_4_16 kb2_5_16 kb2_6_16 kb2_7_16 kb3_0_16 kb3_1_16 kb3_2_16 kb3_3_16 kb3_4_16 kb3_5_16 kb3_6_16 kb3_7_16 kb4_0_16 kb4_1_16 kb4_2_16 kb4_3_16 kb4_4_16 kb4_5_16 kb4_6_16 kb4_7_16
  go_wp2_with fail
  first | refine name_world ?_ | refine name_wp ?_
  intro W17 hW17
  have hp17 : Below w16.heap.size w16 W17 := by rw [hW17]; repeat' (first | (with_reducible exact Below.refl _ _) | (with_reducible refine Below.alloc ?_ ?_ _) | (with_reducible refine Below.setCell ?_ ?_ _) | (with_reducible refine Below.drew ?_) | (simp; done) | (simp; omega))
  have ow0_4_0_17 := Row2.below ow0_4_0_16' hp17 (by omega)
  have ow0_4_1_17 := Row2.below ow0_4_1_16' hp17 (by omega)
  have ot5_0_17 := Row2.below ot5_0_16' hp17 (by omega)
  have ot5_1_17 := Row2.below ot5_1_16' hp17 (by omega)
  have ot6_0_17 := Row2.below ot6_0_16' hp17 (by omega)
  have og0_7_0_17 := Row2.below hm0_16 hp17 (by omega)
  have og0_7_1_17 := Row2.below hm1_16 hp17 (by omega)
  have kb1_0_17 := (hp17.cell (p := ⟨w.heap.size, 0, none⟩) (by show w.heap.size < _; omega)).trans kb1_0_16'
  have kb1_1_17 := (hp17.cell (p := ⟨w.heap.size, 1, none⟩) (by show w.heap.size < _; omega)).trans kb1_1_16'
  have kb1_2_17 := (hp17.cell (p := ⟨w.heap.size, 2, none⟩) (by show w.heap.size < _; omega)).trans kb1_2_16'
  have kb1_3_17 := (hp17.cell (p := ⟨w.heap.size, 3, none⟩) (by show w.heap.size < _; omega)).trans kb1_3_16'
  have kb1_4_17 := (hp17.cell (p := ⟨w.heap.size, 4, none⟩) (by show w.heap.size < _; omega)).trans kb1_4_16'
  have kb1_5_17 := (hp17.cell (p := ⟨w.heap.size, 5, none⟩) (by show w.heap.size < _; omega)).trans kb1_5_16'
  have kb1_6_17 := (hp17.cell (p := ⟨w.heap.size, 6, none⟩) (by show w.heap.size < _; omega)).trans kb1_6_16'
  have kb1_7_17 := (hp17.cell (p := ⟨w.heap.size, 7, none⟩) (by show w.heap.size < _; omega)).trans kb1_7_16'
  have kb2_0_17 := (hp17.cell (p := ⟨w4.heap.size, 0, none⟩) (by show w4.heap.size < _; omega)).trans kb2_0_16'
  have kb2_1_17 := (hp17.cell (p := ⟨w4.heap.size, 1, none⟩) (by show w4.heap.size < _; omega)).trans kb2_1_16'
  have kb2_2_17 := (hp17.cell (p := ⟨w4.heap.size, 2, none⟩) (by show w4.heap.size < _; omega)).trans kb2_2_16'
  have kb2_3_17 := (hp17.cell (p := ⟨w4.heap.size, 3, none⟩) (by show w4.heap.size < _; omega)).trans kb2_3_16'
  have kb2_4_17 := (hp17.cell (p := ⟨w4.heap.size, 4, none⟩) (by show w4.heap.size < _; omega)).trans kb2_4_16'
  have kb2_5_17 := (hp17.cell (p := ⟨w4.heap.size, 5, none⟩) (by show w4.heap.size < _; omega)).trans kb2_5_16'
  have kb2_6_17 := (hp17.cell (p := ⟨w4.heap.size, 6, none⟩) (by show w4.heap.size < _; omega)).trans kb2_6_16'
  have kb2_7_17 := (hp17.cell (p := ⟨w4.heap.size, 7, none⟩) (by show w4.heap.size < _; omega)).trans kb2_7_16'
  have kb3_0_17 := (hp17.cell (p := ⟨w5.heap.size, 0, none⟩) (by show w5.heap.size < _; omega)).trans kb3_0_16'
  have kb3_1_17 := (hp17.cell (p := ⟨w5.heap.size, 1, none⟩) (by show w5.heap.size < _; omega)).trans kb3_1_16'
  have kb3_2_17 := (hp17.cell (p := ⟨w5.heap.size, 2, none⟩) (by show w5.heap.size < _; omega)).trans kb3_2_16'
  have kb3_3_17 := (hp17.cell (p := ⟨w5.heap.size, 3, none⟩) (by show w5.heap.size < _; omega)).trans kb3_3_16'
  have kb3_4_17 := (hp17.cell (p := ⟨w5.heap.size, 4, none⟩) (by show w5.heap.size < _; omega)).trans kb3_4_16'
  have kb3_5_17 := (hp17.cell (p := ⟨w5.heap.size, 5, none⟩) (by show w5.heap.size < _; omega)).trans kb3_5_16'
  have kb3_6_17 := (hp17.cell (p := ⟨w5.heap.size, 6, none⟩) (by show w5.heap.size < _; omega)).trans kb3_6_16'
  have kb3_7_17 := (hp17.cell (p := ⟨w5.heap.size, 7, none⟩) (by show w5.heap.size < _; omega)).trans kb3_7_16'
  have kb4_0_17 := (hp17.cell (p := ⟨w7.heap.size, 0, none⟩) (by show w7.heap.size < _; omega)).trans kb4_0_16'
  have kb4_1_17 := (hp17.cell (p := ⟨w7.heap.size, 1, none⟩) (by show w7.heap.size < _; omega)).trans kb4_1_16'
  have kb4_2_17 := (hp17.cell (p := ⟨w7.heap.size, 2, none⟩) (by show w7.heap.size < _; omega)).trans kb4_2_16'
  have kb4_3_17 := (hp17.cell (p := ⟨w7.heap.size, 3, none⟩) (by show w7.heap.size < _; omega)).trans kb4_3_16'
  have kb4_4_17 := (hp17.cell (p := ⟨w7.heap.size, 4, none⟩) (by show w7.heap.size < _; omega)).trans kb4_4_16'
  have kb4_5_17 := (hp17.cell (p := ⟨w7.heap.size, 5, none⟩) (by show w7.heap.size < _; omega)).trans kb4_5_16'
  have kb4_6_17 := (hp17.cell (p := ⟨w7.heap.size, 6, none⟩) (by show w7.heap.size < _; omega)).trans kb4_6_16'
  have kb4_7_17 := (hp17.cell (p := ⟨w7.heap.size, 7, none⟩) (by show w7.heap.size < _; omega)).trans kb4_7_16'
  have hB17 := hB16'.trans (hp17.mono hB16'.size)
  have hz17 : w16.heap.size ≤ W17.heap.size := hp17.size
  have hl_b1_17 : w.heap.size < W17.heap.size := by omega
  have hl_b2_17 : w4.heap.size < W17.heap.size := by omega
  have hl_b3_17 : w5.heap.size < W17.heap.size := by omega
  have hl_b4_17 : w7.heap.size < W17.heap.size := by omega
  have HW17 := Lib.hid hW17; clear hW17
  clear ow0_4_0_16' ow0_4_1_16' ot5_0_16' ot5_1_16' ot6_0_16' hm0_16 hm1_16 kb1_0_16' kb1_1_16' kb1_2_16' kb1_3_16' kb1_4_16' kb1_5_16' kb1_6_16' kb1_7_16' kb2_0_16' kb2_1_16' kb2_2_16' kb2_3_16' kb2_4_16' kb2_5_16' kb2_6_16' kb2_7_16' kb3_0_16' kb3_1_16' kb3_2_16' kb3_3_16' kb3_4_16' kb3_5_16' kb3_6_16' kb3_7_16' kb4_0_16' kb4_1_16' kb4_2_16' kb4_3_16' kb4_4_16' kb4_5_16' kb4_6_16' kb4_7_16'
  refine (heldVillage_2 Ar0_7 cr0_7 Rr0_7 dr0_7 _ _ ((vPass v0 a1 l2).1) (1) _ (by omega) _ og0_7_0_17 og0_7_1_17 (by first | omega | (simp; omega))).mono ?_
  rintro e w17 ⟨rfl, hb17⟩
  try simp only [Vg.val]
  have ow0_4_0_17' := Row2.below ow0_4_0_17 hb17 (by omega)
  have ow0_4_1_17' := Row2.below ow0_4_1_17 hb17 (by omega)
  have ot5_0_17' := Row2.below ot5_0_17 hb17 (by omega)
  have ot5_1_17' := Row2.below ot5_1_17 hb17 (by omega)
  have ot6_0_17' := Row2.below ot6_0_17 hb17 (by omega)
  have og0_7_0_17' := Row2.below og0_7_0_17 hb17 (by omega)
  have og0_7_1_17' := Row2.below og0_7_1_17 hb17 (by omega)
  have kb1_0_17' := (hb17.cell (p := ⟨w.heap.size, 0, none⟩) (by show w.heap.size < _; omega)).trans kb1_0_17
  have kb1_1_17' := (hb17.cell (p := ⟨w.heap.size, 1, none⟩) (by show w.heap.size < _; omega)).trans kb1_1_17
  have kb1_2_17' := (hb17.cell (p := ⟨w.heap.size, 2, none⟩) (by show w.heap.size < _; omega)).trans kb1_2_17
  have kb1_3_17' := (hb17.cell (p := ⟨w.heap.size, 3, none⟩) (by show w.heap.size < _; omega)).trans kb1_3_17
  have kb1_4_17' := (hb17.cell (p := ⟨w.heap.size, 4, none⟩) (by show w.heap.size < _; omega)).trans kb1_4_17
  have kb1_5_17' := (hb17.cell (p := ⟨w.heap.size, 5, none⟩) (by show w.heap.size < _; omega)).trans kb1_5_17
  have kb1_6_17' := (hb17.cell (p := ⟨w.heap.size, 6, none⟩) (by show w.heap.size < _; omega)).trans kb1_6_17
  have kb1_7_17' := (hb17.cell (p := ⟨w.heap.size, 7, none⟩) (by show w.heap.size < _; omega)).trans kb1_7_17
  have kb2_0_17' := (hb17.cell (p := ⟨w4.heap.size, 0, none⟩) (by show w4.heap.size < _; omega)).trans kb2_0_17
  have kb2_1_17' := (hb17.cell (p := ⟨w4.heap.size, 1, none⟩) (by show w4.heap.size < _; omega)).trans kb2_1_17
  have kb2_2_17' := (hb17.cell (p := ⟨w4.heap.size, 2, none⟩) (by show w4.heap.size < _; omega)).trans kb2_2_17
  have kb2_3_17' := (hb17.cell (p := ⟨w4.heap.size, 3, none⟩) (by show w4.heap.size < _; omega)).trans kb2_3_17
  have kb2_4_17' := (hb17.cell (p := ⟨w4.heap.size, 4, none⟩) (by show w4.heap.size < _; omega)).trans kb2_4_17
  have kb2_5_17' := (hb17.cell (p := ⟨w4.heap.size, 5, none⟩) (by show w4.heap.size < _; omega)).trans kb2_5_17
  have kb2_6_17' := (hb17.cell (p := ⟨w4.heap.size, 6, none⟩) (by show w4.heap.size < _; omega)).trans kb2_6_17
  have kb2_7_17' := (hb17.cell (p := ⟨w4.heap.size, 7, none⟩) (by show w4.heap.size < _; omega)).trans kb2_7_17
  have kb3_0_17' := (hb17.cell (p := ⟨w5.heap.size, 0, none⟩) (by show w5.heap.size < _; omega)).trans kb3_0_17
  have kb3_1_17' := (hb17.cell (p := ⟨w5.heap.size, 1, none⟩) (by show w5.heap.size < _; omega)).trans kb3_1_17
  have kb3_2_17' := (hb17.cell (p := ⟨w5.heap.size, 2, none⟩) (by show w5.heap.size < _; omega)).trans kb3_2_17
  have kb3_3_17' := (hb17.cell (p := ⟨w5.heap.size, 3, none⟩) (by show w5.heap.size < _; omega)).trans kb3_3_17
  have kb3_4_17' := (hb17.cell (p := ⟨w5.heap.size, 4, none⟩) (by show w5.heap.size < _; omega)).trans kb3_4_17
  have kb3_5_17' := (hb17.cell (p := ⟨w5.heap.size, 5, none⟩) (by show w5.heap.size < _; omega)).trans kb3_5_17
  have kb3_6_17' := (hb17.cell (p := ⟨w5.heap.size, 6, none⟩) (by show w5.heap.size < _; omega)).trans kb3_6_17
  have kb3_7_17' := (hb17.cell (p := ⟨w5.heap.size, 7, none⟩) (by show w5.heap.size < _; omega)).trans kb3_7_17
  have kb4_0_17' := (hb17.cell (p := ⟨w7.heap.size, 0, none⟩) (by show w7.heap.size < _; omega)).trans kb4_0_17
  have kb4_1_17' := (hb17.cell (p := ⟨w7.heap.size, 1, none⟩) (by show w7.heap.size < _; omega)).trans kb4_1_17
  have kb4_2_17' := (hb17.cell (p := ⟨w7.heap.size, 2, none⟩) (by show w7.heap.size < _; omega)).trans kb4_2_17
  have kb4_3_17' := (hb17.cell (p := ⟨w7.heap.size, 3, none⟩) (by show w7.heap.size < _; omega)).trans kb4_3_17
  have kb4_4_17' := (hb17.cell (p := ⟨w7.heap.size, 4, none⟩) (by show w7.heap.size < _; omega)).trans kb4_4_17
  have kb4_5_17' := (hb17.cell (p := ⟨w7.heap.size, 5, none⟩) (by show w7.heap.size < _; omega)).trans kb4_5_17
  have kb4_6_17' := (hb17.cell (p := ⟨w7.heap.size, 6, none⟩) (by show w7.heap.size < _; omega)).trans kb4_6_17
  have kb4_7_17' := (hb17.cell (p := ⟨w7.heap.size, 7, none⟩) (by show w7.heap.size < _; omega)).trans kb4_7_17
  have hB17' := hB17.trans (hb17.mono hB17.size)
  have hz17' : W17.heap.size ≤ w17.heap.size := hb17.size
  have hl_b1_17' : w.heap.size < w17.heap.size := by omega
  have hl_b2_17' : w4.heap.size < w17.heap.size := by omega
  have hl_b3_17' : w5.heap.size < w17.heap.size := by omega
  have hl_b4_17' : w7.heap.size < w17.heap.size := by omega
  clear ow0_4_0_17 ow0_4_1_17 ot5_0_17 ot5_1_17 ot6_0_17 og0_7_0_17 og0_7_1_17 kb1_0_17 kb1_1_17 kb1_2_17 kb1_3_17 kb1_4_17 kb1_5_17 kb1_6_17 kb1_7_17 kb2_0_17 kb2_1_17 kb2_2_17 kb2_3_17 kb2_4_17 kb2_5_17 kb2_6_17 kb2_7_17 kb3_0_17 kb3_1_17 kb3_2_17 kb3_3_17 kb3_4_17 kb3_5_17 kb3_6_17 kb3_7_17 kb4_0_17 kb4_1_17 kb4_2_17 kb4_3_17 kb4_4_17 kb4_5_17 kb4_6_17 kb4_7_17
  go_wp2_with fail
  first | refine name_world ?_ | refine name_wp ?_
  intro W18 hW18
  have hp18 : Below w17.heap.size w17 W18 := by rw [hW18]; repeat' (first | (with_reducible exact Below.refl _ _) | (with_reducible refine Below.alloc ?_ ?_ _) | (with_reducible refine Below.setCell ?_ ?_ _) | (with_reducible refine Below.drew ?_) | (simp; done) | (simp; omega))
  have ow0_4_0_18 := Row2.below ow0_4_0_17' hp18 (by omega)
  have ow0_4_1_18 := Row2.below ow0_4_1_17' hp18 (by omega)
  have ot5_0_18 := Row2.below ot5_0_17' hp18 (by omega)
  have ot5_1_18 := Row2.below ot5_1_17' hp18 (by omega)
  have ot6_0_18 := Row2.below ot6_0_17' hp18 (by omega)
  have og0_7_0_18 := Row2.below og0_7_0_17' hp18 (by omega)
  have og0_7_1_18 := Row2.below og0_7_1_17' hp18 (by omega)
  have kb1_0_18 := (hp18.cell (p := ⟨w.heap.size, 0, none⟩) (by show w.heap.size < _; omega)).trans kb1_0_17'
  have kb1_1_18 := (hp18.cell (p := ⟨w.heap.size, 1, none⟩) (by show w.heap.size < _; omega)).trans kb1_1_17'
  have kb1_2_18 := (hp18.cell (p := ⟨w.heap.size, 2, none⟩) (by show w.heap.size < _; omega)).trans kb1_2_17'
  have kb1_3_18 := (hp18.cell (p := ⟨w.heap.size, 3, none⟩) (by show w.heap.size < _; omega)).trans kb1_3_17'
  have kb1_4_18 := (hp18.cell (p := ⟨w.heap.size, 4, none⟩) (by show w.heap.size < _; omega)).trans kb1_4_17'
  have kb1_5_18 := (hp18.cell (p := ⟨w.heap.size, 5, none⟩) (by show w.heap.size < _; omega)).trans kb1_5_17'
  have kb1_6_18 := (hp18.cell (p := ⟨w.heap.size, 6, none⟩) (by show w.heap.size < _; omega)).trans kb1_6_17'
  have kb1_7_18 := (hp18.cell (p := ⟨w.heap.size, 7, none⟩) (by show w.heap.size < _; omega)).trans kb1_7_17'
  have kb2_0_18 := (hp18.cell (p := ⟨w4.heap.size, 0, none⟩) (by show w4.heap.size < _; omega)).trans kb2_0_17'
  have kb2_1_18 := (hp18.cell (p := ⟨w4.heap.size, 1, none⟩) (by show w4.heap.size < _; omega)).trans kb2_1_17'
  have kb2_2_18 := (hp18.cell (p := ⟨w4.heap.size, 2, none⟩) (by show w4.heap.size < _; omega)).trans kb2_2_17'
  have kb2_3_18 := (hp18.cell (p := ⟨w4.heap.size, 3, none⟩) (by show w4.heap.size < _; omega)).trans kb2_3_17'
  have kb2_4_18 := (hp18.cell (p := ⟨w4.heap.size, 4, none⟩) (by show w4.heap.size < _; omega)).trans kb2_4_17'
  have kb2_5_18 := (hp18.cell (p := ⟨w4.heap.size, 5, none⟩) (by show w4.heap.size < _; omega)).trans kb2_5_17'
  have kb2_6_18 := (hp18.cell (p := ⟨w4.heap.size, 6, none⟩) (by show w4.heap.size < _; omega)).trans kb2_6_17'
  have kb2_7_18 := (hp18.cell (p := ⟨w4.heap.size, 7, none⟩) (by show w4.heap.size < _; omega)).trans kb2_7_17'
  have kb3_0_18 := (hp18.cell (p := ⟨w5.heap.size, 0, none⟩) (by show w5.heap.size < _; omega)).trans kb3_0_17'
  have kb3_1_18 := (hp18.cell (p := ⟨w5.heap.size, 1, none⟩) (by show w5.heap.size < _; omega)).trans kb3_1_17'
  have kb3_2_18 := (hp18.cell (p := ⟨w5.heap.size, 2, none⟩) (by show w5.heap.size < _; omega)).trans kb3_2_17'
  have kb3_3_18 := (hp18.cell (p := ⟨w5.heap.size, 3, none⟩) (by show w5.heap.size < _; omega)).trans kb3_3_17'
  have kb3_4_18 := (hp18.cell (p := ⟨w5.heap.size, 4, none⟩) (by show w5.heap.size < _; omega)).trans kb3_4_17'
  have kb3_5_18 := (hp18.cell (p := ⟨w5.heap.size, 5, none⟩) (by show w5.heap.size < _; omega)).trans kb3_5_17'
  have kb3_6_18 := (hp18.cell (p := ⟨w5.heap.size, 6, none⟩) (by show w5.heap.size < _; omega)).trans kb3_6_17'
  have kb3_7_18 := (hp18.cell (p := ⟨w5.heap.size, 7, none⟩) (by show w5.heap.size < _; omega)).trans kb3_7_17'
  have kb4_0_18 := (hp18.cell (p := ⟨w7.heap.size, 0, none⟩) (by show w7.heap.size < _; omega)).trans kb4_0_17'
  have kb4_1_18 := (hp18.cell (p := ⟨w7.heap.size, 1, none⟩) (by show w7.heap.size < _; omega)).trans kb4_1_17'
  have kb4_2_18 := (hp18.cell (p := ⟨w7.heap.size, 2, none⟩) (by show w7.heap.size < _; omega)).trans kb4_2_17'
  have kb4_3_18 := (hp18.cell (p := ⟨w7.heap.size, 3, none⟩) (by show w7.heap.size < _; omega)).trans kb4_3_17'
  have kb4_4_18 := (hp18.cell (p := ⟨w7.heap.size, 4, none⟩) (by show w7.heap.size < _; omega)).trans kb4_4_17'
  have kb4_5_18 := (hp18.cell (p := ⟨w7.heap.size, 5, none⟩) (by show w7.heap.size < _; omega)).trans kb4_5_17'
  have kb4_6_18 := (hp18.cell (p := ⟨w7.heap.size, 6, none⟩) (by show w7.heap.size < _; omega)).trans kb4_6_17'
  have kb4_7_18 := (hp18.cell (p := ⟨w7.heap.size, 7, none⟩) (by show w7.heap.size < _; omega)).trans kb4_7_17'
  have hB18 := hB17'.trans (hp18.mono hB17'.size)
  have hz18 : w17.heap.size ≤ W18.heap.size := hp18.size
  have hl_b1_18 : w.heap.size < W18.heap.size := by omega
  have hl_b2_18 : w4.heap.size < W18.heap.size := by omega
  have hl_b3_18 : w5.heap.size < W18.heap.size := by omega
  have hl_b4_18 : w7.heap.size < W18.heap.size := by omega
  have HW18 := Lib.hid hW18; clear hW18
  clear ow0_4_0_17' ow0_4_1_17' ot5_0_17' ot5_1_17' ot6_0_17' og0_7_0_17' og0_7_1_17' kb1_0_17' kb1_1_17' kb1_2_17' kb1_3_17' kb1_4_17' kb1_5_17' kb1_6_17' kb1_7_17' kb2_0_17' kb2_1_17' kb2_2_17' kb2_3_17' kb2_4_17' kb2_5_17' kb2_6_17' kb2_7_17' kb3_0_17' kb3_1_17' kb3_2_17' kb3_3_17' kb3_4_17' kb3_5_17' kb3_6_17' kb3_7_17' kb4_0_17' kb4_1_17' kb4_2_17' kb4_3_17' kb4_4_17' kb4_5_17' kb4_6_17' kb4_7_17'
  refine (toVillage_any A0 c0 R0 d0 v0 _ (Rd.later h0_0 hB18) (Rd.later h0_1 hB18) hs0).mono ?_
  rintro e w18 ⟨A'18, c'18, R'18, d'18, rfl, ho0_18, ho1_18, hb18⟩
  try simp only [Vg.val]
  have ow0_4_0_18' := Row2.below ow0_4_0_18 hb18 (by omega)
  have ow0_4_1_18' := Row2.below ow0_4_1_18 hb18 (by omega)
  have ot5_0_18' := Row2.below ot5_0_18 hb18 (by omega)
  have ot5_1_18' := Row2.below ot5_1_18 hb18 (by omega)
  have ot6_0_18' := Row2.below ot6_0_18 hb18 (by omega)
  have og0_7_0_18' := Row2.below og0_7_0_18 hb18 (by omega)
  have og0_7_1_18' := Row2.below og0_7_1_18 hb18 (by omega)
  have kb1_0_18' := (hb18.cell (p := ⟨w.heap.size, 0, none⟩) (by show w.heap.size < _; omega)).trans kb1_0_18
  have kb1_1_18' := (hb18.cell (p := ⟨w.heap.size, 1, none⟩) (by show w.heap.size < _; omega)).trans kb1_1_18
  have kb1_2_18' := (hb18.cell (p := ⟨w.heap.size, 2, none⟩) (by show w.heap.size < _; omega)).trans kb1_2_18
  have kb1_3_18' := (hb18.cell (p := ⟨w.heap.size, 3, none⟩) (by show w.heap.size < _; omega)).trans kb1_3_18
  have kb1_4_18' := (hb18.cell (p := ⟨w.heap.size, 4, none⟩) (by show w.heap.size < _; omega)).trans kb1_4_18
  have kb1_5_18' := (hb18.cell (p := ⟨w.heap.size, 5, none⟩) (by show w.heap.size < _; omega)).trans kb1_5_18
  have kb1_6_18' := (hb18.cell (p := ⟨w.heap.size, 6, none⟩) (by show w.heap.size < _; omega)).trans kb1_6_18
  have kb1_7_18' := (hb18.cell (p := ⟨w.heap.size, 7, none⟩) (by show w.heap.size < _; omega)).trans kb1_7_18
  have kb2_0_18' := (hb18.cell (p := ⟨w4.heap.size, 0, none⟩) (by show w4.heap.size < _; omega)).trans kb2_0_18
  have kb2_1_18' := (hb18.cell (p := ⟨w4.heap.size, 1, none⟩) (by show w4.heap.size < _; omega)).trans kb2_1_18
  have kb2_2_18' := (hb18.cell (p := ⟨w4.heap.size, 2, none⟩) (by show w4.heap.size < _; omega)).trans kb2_2_18
  have kb2_3_18' := (hb18.cell (p := ⟨w4.heap.size, 3, none⟩) (by show w4.heap.size < _; omega)).trans kb2_3_18
  have kb2_4_18' := (hb18.cell (p := ⟨w4.heap.size, 4, none⟩) (by show w4.heap.size < _; omega)).trans kb2_4_18
  have kb2_5_18' := (hb18.cell (p := ⟨w4.heap.size, 5, none⟩) (by show w4.heap.size < _; omega)).trans kb2_5_18
  have kb2_6_18' := (hb18.cell (p := ⟨w4.heap.size, 6, none⟩) (by show w4.heap.size < _; omega)).trans kb2_6_18
  have kb2_7_18' := (hb18.cell (p := ⟨w4.heap.size, 7, none⟩) (by show w4.heap.size < _; omega)).trans kb2_7_18
  have kb3_0_18' := (hb18.cell (p := ⟨w5.heap.size, 0, none⟩) (by show w5.heap.size < _; omega)).trans kb3_0_18
  have kb3_1_18' := (hb18.cell (p := ⟨w5.heap.size, 1, none⟩) (by show w5.heap.size < _; omega)).trans kb3_1_18
  have kb3_2_18' := (hb18.cell (p := ⟨w5.heap.size, 2, none⟩) (by show w5.heap.size < _; omega)).trans kb3_2_18
  have kb3_3_18' := (hb18.cell (p := ⟨w5.heap.size, 3, none⟩) (by show w5.heap.size < _; omega)).trans kb3_3_18
  have kb3_4_18' := (hb18.cell (p := ⟨w5.heap.size, 4, none⟩) (by show w5.heap.size < _; omega)).trans kb3_4_18
  have kb3_5_18' := (hb18.cell (p := ⟨w5.heap.size, 5, none⟩) (by show w5.heap.size < _; omega)).trans kb3_5_18
  have kb3_6_18' := (hb18.cell (p := ⟨w5.heap.size, 6, none⟩) (by show w5.heap.size < _; omega)).trans kb3_6_18
  have kb3_7_18' := (hb18.cell (p := ⟨w5.heap.size, 7, none⟩) (by show w5.heap.size < _; omega)).trans kb3_7_18
  have kb4_0_18' := (hb18.cell (p := ⟨w7.heap.size, 0, none⟩) (by show w7.heap.size < _; omega)).trans kb4_0_18
  have kb4_1_18' := (hb18.cell (p := ⟨w7.heap.size, 1, none⟩) (by show w7.heap.size < _; omega)).trans kb4_1_18
  have kb4_2_18' := (hb18.cell (p := ⟨w7.heap.size, 2, none⟩) (by show w7.heap.size < _; omega)).trans kb4_2_18
  have kb4_3_18' := (hb18.cell (p := ⟨w7.heap.size, 3, none⟩) (by show w7.heap.size < _; omega)).trans kb4_3_18
  have kb4_4_18' := (hb18.cell (p := ⟨w7.heap.size, 4, none⟩) (by show w7.heap.size < _; omega)).trans kb4_4_18
  have kb4_5_18' := (hb18.cell (p := ⟨w7.heap.size, 5, none⟩) (by show w7.heap.size < _; omega)).trans kb4_5_18
  have kb4_6_18' := (hb18.cell (p := ⟨w7.heap.size, 6, none⟩) (by show w7.heap.size < _; omega)).trans kb4_6_18
  have kb4_7_18' := (hb18.cell (p := ⟨w7.heap.size, 7, none⟩) (by show w7.heap.size < _; omega)).trans kb4_7_18
  have hB18' := hB18.trans (hb18.mono hB18.size)
  have hz18' : W18.heap.size ≤ w18.heap.size := hb18.size
  have hl_b1_18' : w.heap.size < w18.heap.size := by omega
  have hl_b2_18' : w4.heap.size < w18.heap.size := by omega
  have hl_b3_18' : w5.heap.size < w18.heap.size := by omega
  have hl_b4_18' : w7.heap.size < w18.heap.size := by omega
  have ot18_0_n := Row2.born ho0_18
  have ot18_1_n := Row2.born ho1_18
  clear ow0_4_0_18 ow0_4_1_18 ot5_0_18 ot5_1_18 ot6_0_18 og0_7_0_18 og0_7_1_18 kb1_0_18 kb1_1_18 kb1_2_18 kb1_3_18 kb1_4_18 kb1_5_18 kb1_6_18 kb1_7_18 kb2_0_18 kb2_1_18 kb2_2_18 kb2_3_18 kb2_4_18 kb2_5_18 kb2_6_18 kb2_7_18 kb3_0_18 kb3_1_18 kb3_2_18 kb3_3_18 kb3_4_18 kb3_5_18 kb3_6_18 kb3_7_18 kb4_0_18 kb4_1_18 kb4_2_18 kb4_3_18 kb4_4_18 kb4_5_18 kb4_6_18 kb4_7_18 ho0_18 ho1_18
  go_wp2_with fail
  first | refine name_world ?_ | refine name_wp ?_
  intro W19 hW19
  have hp19 : Below w18.heap.size w18 W19 := by rw [hW19]; repeat' (first | (with_reducible exact Below.refl _ _) | (with_reducible refine Below.alloc ?_ ?_ _) | (with_reducible refine Below.setCell ?_ ?_ _) | (with_reducible refine Below.drew ?_) | (simp; done) | (simp; omega))
  have ow0_4_0_19 := Row2.below ow0_4_0_18' hp19 (by omega)
  have ow0_4_1_19 := Row2.below ow0_4_1_18' hp19 (by omega)
  have ot5_0_19 := Row2.below ot5_0_18' hp19 (by omega)
  have ot5_1_19 := Row2.below ot5_1_18' hp19 (by omega)
  have ot6_0_19 := Row2.below ot6_0_18' hp19 (by omega)
  have og0_7_0_19 := Row2.below og0_7_0_18' hp19 (by omega)
  have og0_7_1_19 := Row2.below og0_7_1_18' hp19 (by omega)
  have ot18_0_19 := Row2.below ot18_0_n hp19 (by omega)
  have ot18_1_19 := Row2.below ot18_1_n hp19 (by omega)
  have kb1_0_19 := (hp19.cell (p := ⟨w.heap.size, 0, none⟩) (by show w.heap.size < _; omega)).trans kb1_0_18'
  have kb1_1_19 := (hp19.cell (p := ⟨w.heap.size, 1, none⟩) (by show w.heap.size < _; omega)).trans kb1_1_18'
  have kb1_2_19 := (hp19.cell (p := ⟨w.heap.size, 2, none⟩) (by show w.heap.size < _; omega)).trans kb1_2_18'
  have kb1_3_19 := (hp19.cell (p := ⟨w.heap.size, 3, none⟩) (by show w.heap.size < _; omega)).trans kb1_3_18'
  have kb1_4_19 := (hp19.cell (p := ⟨w.heap.size, 4, none⟩) (by show w.heap.size < _; omega)).trans kb1_4_18'
  have kb1_5_19 := (hp19.cell (p := ⟨w.heap.size, 5, none⟩) (by show w.heap.size < _; omega)).trans kb1_5_18'
  have kb1_6_19 := (hp19.cell (p := ⟨w.heap.size, 6, none⟩) (by show w.heap.size < _; omega)).trans kb1_6_18'
  have kb1_7_19 := (hp19.cell (p := ⟨w.heap.size, 7, none⟩) (by show w.heap.size < _; omega)).trans kb1_7_18'
  have kb2_0_19 := (hp19.cell (p := ⟨w4.heap.size, 0, none⟩) (by show w4.heap.size < _; omega)).trans kb2_0_18'
  have kb2_1_19 := (hp19.cell (p := ⟨w4.heap.size, 1, none⟩) (by show w4.heap.size < _; omega)).trans kb2_1_18'
  have kb2_2_19 := (hp19.cell (p := ⟨w4.heap.size, 2, none⟩) (by show w4.heap.size < _; omega)).trans kb2_2_18'
  have kb2_3_19 := (hp19.cell (p := ⟨w4.heap.size, 3, none⟩) (by show w4.heap.size < _; omega)).trans kb2_3_18'
  have kb2_4_19 := (hp19.cell (p := ⟨w4.heap.size, 4, none⟩) (by show w4.heap.size < _; omega)).trans kb2_4_18'
  have kb2_5_19 := (hp19.cell (p := ⟨w4.heap.size, 5, none⟩) (by show w4.heap.size < _; omega)).trans kb2_5_18'
  have kb2_6_19 := (hp19.cell (p := ⟨w4.heap.size, 6, none⟩) (by show w4.heap.size < _; omega)).trans kb2_6_18'
  have kb2_7_19 := (hp19.cell (p := ⟨w4.heap.size, 7, none⟩) (by show w4.heap.size < _; omega)).trans kb2_7_18'
  have kb3_0_19 := (hp19.cell (p := ⟨w5.heap.size, 0, none⟩) (by show w5.heap.size < _; omega)).trans kb3_0_18'
  have kb3_1_19 := (hp19.cell (p := ⟨w5.heap.size, 1, none⟩) (by show w5.heap.size < _; omega)).trans kb3_1_18'
  have kb3_2_19 := (hp19.cell (p := ⟨w5.heap.size, 2, none⟩) (by show w5.heap.size < _; omega)).trans kb3_2_18'
  have kb3_3_19 := (hp19.cell (p := ⟨w5.heap.size, 3, none⟩) (by show w5.heap.size < _; omega)).trans kb3_3_18'
  have kb3_4_19 := (hp19.cell (p := ⟨w5.heap.size, 4, none⟩) (by show w5.heap.size < _; omega)).trans kb3_4_18'
  have kb3_5_19 := (hp19.cell (p := ⟨w5.heap.size, 5, none⟩) (by show w5.heap.size < _; omega)).trans kb3_5_18'
  have kb3_6_19 := (hp19.cell (p := ⟨w5.heap.size, 6, none⟩) (by show w5.heap.size < _; omega)).trans kb3_6_18'
  have kb3_7_19 := (hp19.cell (p := ⟨w5.heap.size, 7, none⟩) (by show w5.heap.size < _; omega)).trans kb3_7_18'
  have kb4_0_19 := (hp19.cell (p := ⟨w7.heap.size, 0, none⟩) (by show w7.heap.size < _; omega)).trans kb4_0_18'
  have kb4_1_19 := (hp19.cell (p := ⟨w7.heap.size, 1, none⟩) (by show w7.heap.size < _; omega)).trans kb4_1_18'
  have kb4_2_19 := (hp19.cell (p := ⟨w7.heap.size, 2, none⟩) (by show w7.heap.size < _; omega)).trans kb4_2_18'
  have kb4_3_19 := (hp19.cell (p := ⟨w7.heap.size, 3, none⟩) (by show w7.heap.size < _; omega)).trans kb4_3_18'
  have kb4_4_19 := (hp19.cell (p := ⟨w7.heap.size, 4, none⟩) (by show w7.heap.size < _; omega)).trans kb4_4_18'
  have kb4_5_19 := (hp19.cell (p := ⟨w7.heap.size, 5, none⟩) (by show w7.heap.size < _; omega)).trans kb4_5_18'
  have kb4_6_19 := (hp19.cell (p := ⟨w7.heap.size, 6, none⟩) (by show w7.heap.size < _; omega)).trans kb4_6_18'
  have kb4_7_19 := (hp19.cell (p := ⟨w7.heap.size, 7, none⟩) (by show w7.heap.size < _; omega)).trans kb4_7_18'
  have hB19 := hB18'.trans (hp19.mono hB18'.size)
  have hz19 : w18.heap.size ≤ W19.heap.size := hp19.size
  have hl_b1_19 : w.heap.size < W19.heap.size := by omega
  have hl_b2_19 : w4.heap.size < W19.heap.size := by omega
  have hl_b3_19 : w5.heap.size < W19.heap.size := by omega
  have hl_b4_19 : w7.heap.size < W19.heap.size := by omega
  have HW19 := Lib.hid hW19; clear hW19
  clear ow0_4_0_18' ow0_4_1_18' ot5_0_18' ot5_1_18' ot6_0_18' og0_7_0_18' og0_7_1_18' ot18_0_n ot18_1_n kb1_0_18' kb1_1_18' kb1_2_18' kb1_3_18' kb1_4_18' kb1_5_18' kb1_6_18' kb1_7_18' kb2_0_18' kb2_1_18' kb2_2_18' kb2_3_18' kb2_4_18' kb2_5_18' kb2_6_18' kb2_7_18' kb3_0_18' kb3_1_18' kb3_2_18' kb3_3_18' kb3_4_18' kb3_5_18' kb3_6_18' kb3_7_18' kb4_0_18' kb4_1_18' kb4_2_18' kb4_3_18' kb4_4_18' kb4_5_18' kb4_6_18' kb4_7_18'
  refine (toIntS_any A2 c2 l2 _ (Rd.later h2_0 hB19) hs2).mono ?_
  rintro e w19 ⟨A'19, c'19, rfl, ho0_19, hb19⟩
  try simp only [Vg.val]
  have ow0_4_0_19' := Row2.below ow0_4_0_19 hb19 (by omega)
  have ow0_4_1_19' := Row2.below ow0_4_1_19 hb19 (by omega)
  have ot5_0_19' := Row2.below ot5_0_19 hb19 (by omega)
  have ot5_1_19' := Row2.below ot5_1_19 hb19 (by omega)
  have ot6_0_19' := Row2.below ot6_0_19 hb19 (by omega)
  have og0_7_0_19' := Row2.below og0_7_0_19 hb19 (by omega)
  have og0_7_1_19' := Row2.below og0_7_1_19 hb19 (by omega)
  have ot18_0_19' := Row2.below ot18_0_19 hb19 (by omega)
  have ot18_1_19' := Row2.below ot18_1_19 hb19 (by omega)
  have kb1_0_19' := (hb19.cell (p := ⟨w.heap.size, 0, none⟩) (by show w.heap.size < _; omega)).trans kb1_0_19
  have kb1_1_19' := (hb19.cell (p := ⟨w.heap.size, 1, none⟩) (by show w.heap.size < _; omega)).trans kb1_1_19
  have kb1_2_19' := (hb19.cell (p := ⟨w.heap.size, 2, none⟩) (by show w.heap.size < _; omega)).trans kb1_2_19
  have kb1_3_19' := (hb19.cell (p := ⟨w.heap.size, 3, none⟩) (by show w.heap.size < _; omega)).trans kb1_3_19
  have kb1_4_19' := (hb19.cell (p := ⟨w.heap.size, 4, none⟩) (by show w.heap.size < _; omega)).trans kb1_4_19
  have kb1_5_19' := (hb19.cell (p := ⟨w.heap.size, 5, none⟩) (by show w.heap.size < _; omega)).trans kb1_5_19
  have kb1_6_19' := (hb19.cell (p := ⟨w.heap.size, 6, none⟩) (by show w.heap.size < _; omega)).trans kb1_6_19
  have kb1_7_19' := (hb19.cell (p := ⟨w.heap.size, 7, none⟩) (by show w.heap.size < _; omega)).trans kb1_7_19
  have kb2_0_19' := (hb19.cell (p := ⟨w4.heap.size, 0, none⟩) (by show w4.heap.size < _; omega)).trans kb2_0_19
  have kb2_1_19' := (hb19.cell (p := ⟨w4.heap.size, 1, none⟩) (by show w4.heap.size < _; omega)).trans kb2_1_19
  have kb2_2_19' := (hb19.cell (p := ⟨w4.heap.size, 2, none⟩) (by show w4.heap.size < _; omega)).trans kb2_2_19
  have kb2_3_19' := (hb19.cell (p := ⟨w4.heap.size, 3, none⟩) (by show w4.heap.size < _; omega)).trans kb2_3_19
  have kb2_4_19' := (hb19.cell (p := ⟨w4.heap.size, 4, none⟩) (by show w4.heap.size < _; omega)).trans kb2_4_19
  have kb2_5_19' := (hb19.cell (p := ⟨w4.heap.size, 5, none⟩) (by show w4.heap.size < _; omega)).trans kb2_5_19
  have kb2_6_19' := (hb19.cell (p := ⟨w4.heap.size, 6, none⟩) (by show w4.heap.size < _; omega)).trans kb2_6_19
  have kb2_7_19' := (hb19.cell (p := ⟨w4.heap.size, 7, none⟩) (by show w4.heap.size < _; omega)).trans kb2_7_19
  have kb3_0_19' := (hb19.cell (p := ⟨w5.heap.size, 0, none⟩) (by show w5.heap.size < _; omega)).trans kb3_0_19
  have kb3_1_19' := (hb19.cell (p := ⟨w5.heap.size, 1, none⟩) (by show w5.heap.size < _; omega)).trans kb3_1_19
  have kb3_2_19' := (hb19.cell (p := ⟨w5.heap.size, 2, none⟩) (by show w5.heap.size < _; omega)).trans kb3_2_19
  have kb3_3_19' := (hb19.cell (p := ⟨w5.heap.size, 3, none⟩) (by show w5.heap.size < _; omega)).trans kb3_3_19
  have kb3_4_19' := (hb19.cell (p := ⟨w5.heap.size, 4, none⟩) (by show w5.heap.size < _; omega)).trans kb3_4_19
  have kb3_5_19' := (hb19.cell (p := ⟨w5.heap.size, 5, none⟩) (by show w5.heap.size < _; omega)).trans kb3_5_19
  have kb3_6_19' := (hb19.cell (p := ⟨w5.heap.size, 6, none⟩) (by show w5.heap.size < _; omega)).trans kb3_6_19
  have kb3_7_19' := (hb19.cell (p := ⟨w5.heap.size, 7, none⟩) (by show w5.heap.size < _; omega)).trans kb3_7_19
  have kb4_0_19' := (hb19.cell (p := ⟨w7.heap.size, 0, none⟩) (by show w7.heap.size < _; omega)).trans kb4_0_19
  have kb4_1_19' := (hb19.cell (p := ⟨w7.heap.size, 1, none⟩) (by show w7.heap.size < _; omega)).trans kb4_1_19
  have kb4_2_19' := (hb19.cell (p := ⟨w7.heap.size, 2, none⟩) (by show w7.heap.size < _; omega)).trans kb4_2_19
  have kb4_3_19' := (hb19.cell (p := ⟨w7.heap.size, 3, none⟩) (by show w7.heap.size < _; omega)).trans kb4_3_19
  have kb4_4_19' := (hb19.cell (p := ⟨w7.heap.size, 4, none⟩) (by show w7.heap.size < _; omega)).trans kb4_4_19
  have kb4_5_19' := (hb19.cell (p := ⟨w7.heap.size, 5, none⟩) (by show w7.heap.size < _; omega)).trans kb4_5_19
  have kb4_6_19' := (hb19.cell (p := ⟨w7.heap.size, 6, none⟩) (by show w7.heap.size < _; omega)).trans kb4_6_19
  have kb4_7_19' := (hb19.cell (p := ⟨w7.heap.size, 7, none⟩) (by show w7.heap.size < _; omega)).trans kb4_7_19
  have hB19' := hB19.trans (hb19.mono hB19.size)
  have hz19' : W19.heap.size ≤ w19.heap.size := hb19.size
  have hl_b1_19' : w.heap.size < w19.heap.size := by omega
  have hl_b2_19' : w4.heap.size < w19.heap.size := by omega
  have hl_b3_19' : w5.heap.size < w19.heap.size := by omega
  have hl_b4_19' : w7.heap.size < w19.heap.size := by omega
  have ot19_0_n := Row2.born ho0_19
  clear ow0_4_0_19 ow0_4_1_19 ot5_0_19 ot5_1_19 ot6_0_19 og0_7_0_19 og0_7_1_19 ot18_0_19 ot18_1_19 kb1_0_19 kb1_1_19 kb1_2_19 kb1_3_19 kb1_4_19 kb1_5_19 kb1_6_19 kb1_7_19 kb2_0_19 kb2_1_19 kb2_2_19 kb2_3_19 kb2_4_19 kb2_5_19 kb2_6_19 kb2_7_19 kb3_0_19 kb3_1_19 kb3_2_19 kb3_3_19 kb3_4_19 kb3_5_19 kb3_6_19 kb3_7_19 kb4_0_19 kb4_1_19 kb4_2_19 kb4_3_19 kb4_4_19 kb4_5_19 kb4_6_19 kb4_7_19 ho0_19
  go_wp2_with fail
  first | refine name_world ?_ | refine name_wp ?_
  intro W20 hW20
  have hp20 : Below w19.heap.size w19 W20 := by rw [hW20]; repeat' (first | (with_reducible exact Below.refl _ _) | (with_reducible refine Below.alloc ?_ ?_ _) | (with_reducible refine Below.setCell ?_ ?_ _) | (with_reducible refine Below.drew ?_) | (simp; done) | (simp; omega))
  have ow0_4_0_20 := Row2.below ow0_4_0_19' hp20 (by omega)
  have ow0_4_1_20 := Row2.below ow0_4_1_19' hp20 (by omega)
  have ot5_0_20 := Row2.below ot5_0_19' hp20 (by omega)
  have ot5_1_20 := Row2.below ot5_1_19' hp20 (by omega)
  have ot6_0_20 := Row2.below ot6_0_19' hp20 (by omega)
  have og0_7_0_20 := Row2.below og0_7_0_19' hp20 (by omega)
  have og0_7_1_20 := Row2.below og0_7_1_19' hp20 (by omega)
  have ot18_0_20 := Row2.below ot18_0_19' hp20 (by omega)
  have ot18_1_20 := Row2.below ot18_1_19' hp20 (by omega)
  have ot19_0_20 := Row2.below ot19_0_n hp20 (by omega)
  have kb1_0_20 := (hp20.cell (p := ⟨w.heap.size, 0, none⟩) (by show w.heap.size < _; omega)).trans kb1_0_19'
  have kb1_1_20 := (hp20.cell (p := ⟨w.heap.size, 1, none⟩) (by show w.heap.size < _; omega)).trans kb1_1_19'
  have kb1_2_20 := (hp20.cell (p := ⟨w.heap.size, 2, none⟩) (by show w.heap.size < _; omega)).trans kb1_2_19'
  have kb1_3_20 := (hp20.cell (p := ⟨w.heap.size, 3, none⟩) (by show w.heap.size < _; omega)).trans kb1_3_19'
  have kb1_4_20 := (hp20.cell (p := ⟨w.heap.size, 4, none⟩) (by show w.heap.size < _; omega)).trans kb1_4_19'
  have kb1_5_20 := (hp20.cell (p := ⟨w.heap.size, 5, none⟩) (by show w.heap.size < _; omega)).trans kb1_5_19'
  have kb1_6_20 := (hp20.cell (p := ⟨w.heap.size, 6, none⟩) (by show w.heap.size < _; omega)).trans kb1_6_19'
  have kb1_7_20 := (hp20.cell (p := ⟨w.heap.size, 7, none⟩) (by show w.heap.size < _; omega)).trans kb1_7_19'
  have kb2_0_20 := (hp20.cell (p := ⟨w4.heap.size, 0, none⟩) (by show w4.heap.size < _; omega)).trans kb2_0_19'
  have kb2_1_20 := (hp20.cell (p := ⟨w4.heap.size, 1, none⟩) (by show w4.heap.size < _; omega)).trans kb2_1_19'
  have kb2_2_20 := (hp20.cell (p := ⟨w4.heap.size, 2, none⟩) (by show w4.heap.size < _; omega)).trans kb2_2_19'
  have kb2_3_20 := (hp20.cell (p := ⟨w4.heap.size, 3, none⟩) (by show w4.heap.size < _; omega)).trans kb2_3_19'
  have kb2_4_20 := (hp20.cell (p := ⟨w4.heap.size, 4, none⟩) (by show w4.heap.size < _; omega)).trans kb2_4_19'
  have kb2_5_20 := (hp20.cell (p := ⟨w4.heap.size, 5, none⟩) (by show w4.heap.size < _; omega)).trans kb2_5_19'
  have kb2_6_20 := (hp20.cell (p := ⟨w4.heap.size, 6, none⟩) (by show w4.heap.size < _; omega)).trans kb2_6_19'
  have kb2_7_20 := (hp20.cell (p := ⟨w4.heap.size, 7, none⟩) (by show w4.heap.size < _; omega)).trans kb2_7_19'
  have kb3_0_20 := (hp20.cell (p := ⟨w5.heap.size, 0, none⟩) (by show w5.heap.size < _; omega)).trans kb3_0_19'
  have kb3_1_20 := (hp20.cell (p := ⟨w5.heap.size, 1, none⟩) (by show w5.heap.size < _; omega)).trans kb3_1_19'
  have kb3_2_20 := (hp20.cell (p := ⟨w5.heap.size, 2, none⟩) (by show w5.heap.size < _; omega)).trans kb3_2_19'
  have kb3_3_20 := (hp20.cell (p := ⟨w5.heap.size, 3, none⟩) (by show w5.heap.size < _; omega)).trans kb3_3_19'
  have kb3_4_20 := (hp20.cell (p := ⟨w5.heap.size, 4, none⟩) (by show w5.heap.size < _; omega)).trans kb3_4_19'
  have kb3_5_20 := (hp20.cell (p := ⟨w5.heap.size, 5, none⟩) (by show w5.heap.size < _; omega)).trans kb3_5_19'
  have kb3_6_20 := (hp20.cell (p := ⟨w5.heap.size, 6, none⟩) (by show w5.heap.size < _; omega)).trans kb3_6_19'
  have kb3_7_20 := (hp20.cell (p := ⟨w5.heap.size, 7, none⟩) (by show w5.heap.size < _; omega)).trans kb3_7_19'
  have kb4_0_20 := (hp20.cell (p := ⟨w7.heap.size, 0, none⟩) (by show w7.heap.size < _; omega)).trans kb4_0_19'
  have kb4_1_20 := (hp20.cell (p := ⟨w7.heap.size, 1, none⟩) (by show w7.heap.size < _; omega)).trans kb4_1_19'
  have kb4_2_20 := (hp20.cell (p := ⟨w7.heap.size, 2, none⟩) (by show w7.heap.size < _; omega)).trans kb4_2_19'
  have kb4_3_20 := (hp20.cell (p := ⟨w7.heap.size, 3, none⟩) (by show w7.heap.size < _; omega)).trans kb4_3_19'
  have kb4_4_20 := (hp20.cell (p := ⟨w7.heap.size, 4, none⟩) (by show w7.heap.size < _; omega)).trans kb4_4_19'
  have kb4_5_20 := (hp20.cell (p := ⟨w7.heap.size, 5, none⟩) (by show w7.heap.size < _; omega)).trans kb4_5_19'
  have kb4_6_20 := (hp20.cell (p := ⟨w7.heap.size, 6, none⟩) (by show w7.heap.size < _; omega)).trans kb4_6_19'
  have kb4_7_20 := (hp20.cell (p := ⟨w7.heap.size, 7, none⟩) (by show w7.heap.size < _; omega)).trans kb4_7_19'
  have hB20 := hB19'.trans (hp20.mono hB19'.size)
  have hz20 : w19.heap.size ≤ W20.heap.size := hp20.size
  have hl_b1_20 : w.heap.size < W20.heap.size := by omega
  have hl_b2_20 : w4.heap.size < W20.heap.size := by omega
  have hl_b3_20 : w5.heap.size < W20.heap.size := by omega
  have hl_b4_20 : w7.heap.size < W20.heap.size := by omega
  have HW20 := Lib.hid hW20; clear hW20
  clear ow0_4_0_19' ow0_4_1_19' ot5_0_19' ot5_1_19' ot6_0_19' og0_7_0_19' og0_7_1_19' ot18_0_19' ot18_1_19' ot19_0_n kb1_0_19' kb1_1_19' kb1_2_19' kb1_3_19' kb1_4_19' kb1_5_19' kb1_6_19' kb1_7_19' kb2_0_19' kb2_1_19' kb2_2_19' kb2_3_19' kb2_4_19' kb2_5_19' kb2_6_19' kb2_7_19' kb3_0_19' kb3_1_19' kb3_2_19' kb3_3_19' kb3_4_19' kb3_5_19' kb3_6_19' kb3_7_19' kb4_0_19' kb4_1_19' kb4_2_19' kb4_3_19' kb4_4_19' kb4_5_19' kb4_6_19' kb4_7_19'
  refine (PassOn_any A'18 c'18 R'18 d'18 v0 a1 A'19 c'19 l2 _ ot18_0_20.rd ot18_1_20.rd ot19_0_20.rd (by omega)).mono ?_
  rintro e w20 ⟨Ar0_20, cr0_20, Rr0_20, dr0_20, rfl, ho0_20, ho1_20, hb20⟩
  try simp only [Vg.val]
  have ow0_4_0_20' := Row2.below ow0_4_0_20 hb20 (by omega)
  have ow0_4_1_20' := Row2.below ow0_4_1_20 hb20 (by omega)
  have ot5_0_20' := Row2.below ot5_0_20 hb20 (by omega)
  have ot5_1_20' := Row2.below ot5_1_20 hb20 (by omega)
  have ot6_0_20' := Row2.below ot6_0_20 hb20 (by omega)
  have og0_7_0_20' := Row2.below og0_7_0_20 hb20 (by omega)
  have og0_7_1_20' := Row2.below og0_7_1_20 hb20 (by omega)
  have ot18_0_20' := Row2.below ot18_0_20 hb20 (by omega)
  have ot18_1_20' := Row2.below ot18_1_20 hb20 (by omega)
  have ot19_0_20' := Row2.below ot19_0_20 hb20 (by omega)
  have kb1_0_20' := (hb20.cell (p := ⟨w.heap.size, 0, none⟩) (by show w.heap.size < _; omega)).trans kb1_0_20
  have kb1_1_20' := (hb20.cell (p := ⟨w.heap.size, 1, none⟩) (by show w.heap.size < _; omega)).trans kb1_1_20
  have kb1_2_20' := (hb20.cell (p := ⟨w.heap.size, 2, none⟩) (by show w.heap.size < _; omega)).trans kb1_2_20
  have kb1_3_20' := (hb20.cell (p := ⟨w.heap.size, 3, none⟩) (by show w.heap.size < _; omega)).trans kb1_3_20
  have kb1_4_20' := (hb20.cell (p := ⟨w.heap.size, 4, none⟩) (by show w.heap.size < _; omega)).trans kb1_4_20
  have kb1_5_20' := (hb20.cell (p := ⟨w.heap.size, 5, none⟩) (by show w.heap.size < _; omega)).trans kb1_5_20
  have kb1_6_20' := (hb20.cell (p := ⟨w.heap.size, 6, none⟩) (by show w.heap.size < _; omega)).trans kb1_6_20
  have kb1_7_20' := (hb20.cell (p := ⟨w.heap.size, 7, none⟩) (by show w.heap.size < _; omega)).trans kb1_7_20
  have kb2_0_20' := (hb20.cell (p := ⟨w4.heap.size, 0, none⟩) (by show w4.heap.size < _; omega)).trans kb2_0_20
  have kb2_1_20' := (hb20.cell (p := ⟨w4.heap.size, 1, none⟩) (by show w4.heap.size < _; omega)).trans kb2_1_20
  have kb2_2_20' := (hb20.cell (p := ⟨w4.heap.size, 2, none⟩) (by show w4.heap.size < _; omega)).trans kb2_2_20
  have kb2_3_20' := (hb20.cell (p := ⟨w4.heap.size, 3, none⟩) (by show w4.heap.size < _; omega)).trans kb2_3_20
  have kb2_4_20' := (hb20.cell (p := ⟨w4.heap.size, 4, none⟩) (by show w4.heap.size < _; omega)).trans kb2_4_20
  have kb2_5_20' := (hb20.cell (p := ⟨w4.heap.size, 5, none⟩) (by show w4.heap.size < _; omega)).trans kb2_5_20
  have kb2_6_20' := (hb20.cell (p := ⟨w4.heap.size, 6, none⟩) (by show w4.heap.size < _; omega)).trans kb2_6_20
  have kb2_7_20' := (hb20.cell (p := ⟨w4.heap.size, 7, none⟩) (by show w4.heap.size < _; omega)).trans kb2_7_20
  have kb3_0_20' := (hb20.cell (p := ⟨w5.heap.size, 0, none⟩) (by show w5.heap.size < _; omega)).trans kb3_0_20
  have kb3_1_20' := (hb20.cell (p := ⟨w5.heap.size, 1, none⟩) (by show w5.heap.size < _; omega)).trans kb3_1_20
  have kb3_2_20' := (hb20.cell (p := ⟨w5.heap.size, 2, none⟩) (by show w5.heap.size < _; omega)).trans kb3_2_20
  have kb3_3_20' := (hb20.cell (p := ⟨w5.heap.size, 3, none⟩) (by show w5.heap.size < _; omega)).trans kb3_3_20
  have kb3_4_20' := (hb20.cell (p := ⟨w5.heap.size, 4, none⟩) (by show w5.heap.size < _; omega)).trans kb3_4_20
  have kb3_5_20' := (hb20.cell (p := ⟨w5.heap.size, 5, none⟩) (by show w5.heap.size < _; omega)).trans kb3_5_20
  have kb3_6_20' := (hb20.cell (p := ⟨w5.heap.size, 6, none⟩) (by show w5.heap.size < _; omega)).trans kb3_6_20
  have kb3_7_20' := (hb20.cell (p := ⟨w5.heap.size, 7, none⟩) (by show w5.heap.size < _; omega)).trans kb3_7_20
  have kb4_0_20' := (hb20.cell (p := ⟨w7.heap.size, 0, none⟩) (by show w7.heap.size < _; omega)).trans kb4_0_20
  have kb4_1_20' := (hb20.cell (p := ⟨w7.heap.size, 1, none⟩) (by show w7.heap.size < _; omega)).trans kb4_1_20
  have kb4_2_20' := (hb20.cell (p := ⟨w7.heap.size, 2, none⟩) (by show w7.heap.size < _; omega)).trans kb4_2_20
  have kb4_3_20' := (hb20.cell (p := ⟨w7.heap.size, 3, none⟩) (by show w7.heap.size < _; omega)).trans kb4_3_20
  have kb4_4_20' := (hb20.cell (p := ⟨w7.heap.size, 4, none⟩) (by show w7.heap.size < _; omega)).trans kb4_4_20
  have kb4_5_20' := (hb20.cell (p := ⟨w7.heap.size, 5, none⟩) (by show w7.heap.size < _; omega)).trans kb4_5_20
  have kb4_6_20' := (hb20.cell (p := ⟨w7.heap.size, 6, none⟩) (by show w7.heap.size < _; omega)).trans kb4_6_20
  have kb4_7_20' := (hb20.cell (p := ⟨w7.heap.size, 7, none⟩) (by show w7.heap.size < _; omega)).trans kb4_7_20
  have hB20' := hB20.trans (hb20.mono hB20.size)
  have hz20' : W20.heap.size ≤ w20.heap.size := hb20.size
  have hl_b1_20' : w.heap.size < w20.heap.size := by omega
  have hl_b2_20' : w4.heap.size < w20.heap.size := by omega
  have hl_b3_20' : w5.heap.size < w20.heap.size := by omega
  have hl_b4_20' : w7.heap.size < w20.heap.size := by omega
  clear ow0_4_0_20 ow0_4_1_20 ot5_0_20 ot5_1_20 ot6_0_20 og0_7_0_20 og0_7_1_20 ot18_0_20 ot18_1_20 ot19_0_20 kb1_0_20 kb1_1_20 kb1_2_20 kb1_3_20 kb1_4_20 kb1_5_20 kb1_6_20 kb1_7_20 kb2_0_20 kb2_1_20 kb2_2_20 kb2_3_20 kb2_4_20 kb2_5_20 kb2_6_20 kb2_7_20 kb3_0_20 kb3_1_20 kb3_2_20 kb3_3_20 kb3_4_20 kb3_5_20 kb3_6_20 kb3_7_20 kb4_0_20 kb4_1_20 kb4_2_20 kb4_3_20 kb4_4_20 kb4_5_20 kb4_6_20 kb4_7_20
  rw [← HR1.out]
  have oh0_20_0_n := Row2.born ho0_20
  have oh0_20_1_n := Row2.born ho1_20
  clear ho0_20 ho1_20
  go_wp2_with fail
  first | refine name_world ?_ | refine name_wp ?_
  intro W21 hW21
  have hp21 : Below w20.heap.size w20 W21 := by rw [hW21]; repeat' (first | (with_reducible exact Below.refl _ _) | (with_reducible refine Below.alloc ?_ ?_ _) | (with_reducible refine Below.setCell ?_ ?_ _) | (with_reducible refine Below.drew ?_) | (simp; done) | (simp; omega))
  have kb5_0_21 : W21.cell? ⟨w20.heap.size, 0, none⟩ = some (.int .i64 (vPass v0 a1 l2).1.book.room) := by rw [hW21]; simp [go_sem]
  have kb5_1_21 : W21.cell? ⟨w20.heap.size, 1, none⟩ = some (.int .i64 (vPass v0 a1 l2).1.book.start) := by rw [hW21]; simp [go_sem]
  have kb5_2_21 : W21.cell? ⟨w20.heap.size, 2, none⟩ = some (.slice Ar0_20 (vPass v0 a1 l2).1.book.evs.length cr0_20) := by rw [hW21]; simp [go_sem]
  have kb5_3_21 : W21.cell? ⟨w20.heap.size, 3, none⟩ = some (.int .i64 (vPass v0 a1 l2).1.book.level) := by rw [hW21]; simp [go_sem]
  have kb5_4_21 : W21.cell? ⟨w20.heap.size, 4, none⟩ = some (.int .i64 (vPass v0 a1 l2).1.book.rained) := by rw [hW21]; simp [go_sem]
  have kb5_5_21 : W21.cell? ⟨w20.heap.size, 5, none⟩ = some (.int .i64 (vPass v0 a1 l2).1.book.drunk) := by rw [hW21]; simp [go_sem]
  have kb5_6_21 : W21.cell? ⟨w20.heap.size, 6, none⟩ = some (.int .i64 (vPass v0 a1 l2).1.book.lost) := by rw [hW21]; simp [go_sem]
  have kb5_7_21 : W21.cell? ⟨w20.heap.size, 7, none⟩ = some (.slice Rr0_20 (vPass v0 a1 l2).1.rights.length dr0_20) := by rw [hW21]; simp [go_sem]
  have hl_b5 : w20.heap.size < W21.heap.size := by rw [hW21]; first | (simp; done) | (simp; omega)
  have ow0_4_0_21 := Row2.below ow0_4_0_20' hp21 (by omega)
  have ow0_4_1_21 := Row2.below ow0_4_1_20' hp21 (by omega)
  have ot5_0_21 := Row2.below ot5_0_20' hp21 (by omega)
  have ot5_1_21 := Row2.below ot5_1_20' hp21 (by omega)
  have ot6_0_21 := Row2.below ot6_0_20' hp21 (by omega)
  have og0_7_0_21 := Row2.below og0_7_0_20' hp21 (by omega)
  have og0_7_1_21 := Row2.below og0_7_1_20' hp21 (by omega)
  have oh0_20_0_21 := Row2.below oh0_20_0_n hp21 (by omega)
  have oh0_20_1_21 := Row2.below oh0_20_1_n hp21 (by omega)
  have kb1_0_21 := (hp21.cell (p := ⟨w.heap.size, 0, none⟩) (by show w.heap.size < _; omega)).trans kb1_0_20'
  have kb1_1_21 := (hp21.cell (p := ⟨w.heap.size, 1, none⟩) (by show w.heap.size < _; omega)).trans kb1_1_20'
  have kb1_2_21 := (hp21.cell (p := ⟨w.heap.size, 2, none⟩) (by show w.heap.size < _; omega)).trans kb1_2_20'
  have kb1_3_21 := (hp21.cell (p := ⟨w.heap.size, 3, none⟩) (by show w.heap.size < _; omega)).trans kb1_3_20'
  have kb1_4_21 := (hp21.cell (p := ⟨w.heap.size, 4, none⟩) (by show w.heap.size < _; omega)).trans kb1_4_20'
  have kb1_5_21 := (hp21.cell (p := ⟨w.heap.size, 5, none⟩) (by show w.heap.size < _; omega)).trans kb1_5_20'
  have kb1_6_21 := (hp21.cell (p := ⟨w.heap.size, 6, none⟩) (by show w.heap.size < _; omega)).trans kb1_6_20'
  have kb1_7_21 := (hp21.cell (p := ⟨w.heap.size, 7, none⟩) (by show w.heap.size < _; omega)).trans kb1_7_20'
  have kb2_0_21 := (hp21.cell (p := ⟨w4.heap.size, 0, none⟩) (by show w4.heap.size < _; omega)).trans kb2_0_20'
  have kb2_1_21 := (hp21.cell (p := ⟨w4.heap.size, 1, none⟩) (by show w4.heap.size < _; omega)).trans kb2_1_20'
  have kb2_2_21 := (hp21.cell (p := ⟨w4.heap.size, 2, none⟩) (by show w4.heap.size < _; omega)).trans kb2_2_20'
  have kb2_3_21 := (hp21.cell (p := ⟨w4.heap.size, 3, none⟩) (by show w4.heap.size < _; omega)).trans kb2_3_20'
  have kb2_4_21 := (hp21.cell (p := ⟨w4.heap.size, 4, none⟩) (by show w4.heap.size < _; omega)).trans kb2_4_20'
  have kb2_5_21 := (hp21.cell (p := ⟨w4.heap.size, 5, none⟩) (by show w4.heap.size < _; omega)).trans kb2_5_20'
  have kb2_6_21 := (hp21.cell (p := ⟨w4.heap.size, 6, none⟩) (by show w4.heap.size < _; omega)).trans kb2_6_20'
  have kb2_7_21 := (hp21.cell (p := ⟨w4.heap.size, 7, none⟩) (by show w4.heap.size < _; omega)).trans kb2_7_20'
  have kb3_0_21 := (hp21.cell (p := ⟨w5.heap.size, 0, none⟩) (by show w5.heap.size < _; omega)).trans kb3_0_20'
  have kb3_1_21 := (hp21.cell (p := ⟨w5.heap.size, 1, none⟩) (by show w5.heap.size < _; omega)).trans kb3_1_20'
  have kb3_2_21 := (hp21.cell (p := ⟨w5.heap.size, 2, none⟩) (by show w5.heap.size < _; omega)).trans kb3_2_20'
  have kb3_3_21 := (hp21.cell (p := ⟨w5.heap.size, 3, none⟩) (by show w5.heap.size < _; omega)).trans kb3_3_20'
  have kb3_4_21 := (hp21.cell (p := ⟨w5.heap.size, 4, none⟩) (by show w5.heap.size < _; omega)).trans kb3_4_20'
  have kb3_5_21 := (hp21.cell (p := ⟨w5.heap.size, 5, none⟩) (by show w5.heap.size < _; omega)).trans kb3_5_20'
  have kb3_6_21 := (hp21.cell (p := ⟨w5.heap.size, 6, none⟩) (by show w5.heap.size < _; omega)).trans kb3_6_20'
  have kb3_7_21 := (hp21.cell (p := ⟨w5.heap.size, 7, none⟩) (by show w5.heap.size < _; omega)).trans kb3_7_20'
  have kb4_0_21 := (hp21.cell (p := ⟨w7.heap.size, 0, none⟩) (by show w7.heap.size < _; omega)).trans kb4_0_20'
  have kb4_1_21 := (hp21.cell (p := ⟨w7.heap.size, 1, none⟩) (by show w7.heap.size < _; omega)).trans kb4_1_20'
  have kb4_2_21 := (hp21.cell (p := ⟨w7.heap.size, 2, none⟩) (by show w7.heap.size < _; omega)).trans kb4_2_20'
  have kb4_3_21 := (hp21.cell (p := ⟨w7.heap.size, 3, none⟩) (by show w7.heap.size < _; omega)).trans kb4_3_20'
  have kb4_4_21 := (hp21.cell (p := ⟨w7.heap.size, 4, none⟩) (by show w7.heap.size < _; omega)).trans kb4_4_20'
  have kb4_5_21 := (hp21.cell (p := ⟨w7.heap.size, 5, none⟩) (by show w7.heap.size < _; omega)).trans kb4_5_20'
  have kb4_6_21 := (hp21.cell (p := ⟨w7.heap.size, 6, none⟩) (by show w7.heap.size < _; omega)).trans kb4_6_20'
  have kb4_7_21 := (hp21.cell (p := ⟨w7.heap.size, 7, none⟩) (by show w7.heap.size < _; omega)).trans kb4_7_20'
  have hB21 := hB20'.trans (hp21.mono hB20'.size)
  have hz21 : w20.heap.size ≤ W21.heap.size := hp21.size
  have hl_b1_21 : w.heap.size < W21.heap.size := by omega
  have hl_b2_21 : w4.heap.size < W21.heap.size := by omega
  have hl_b3_21 : w5.heap.size < W21.heap.size := by omega
  have hl_b4_21 : w7.heap.size < W21.heap.size := by omega
  have HW21 := Lib.hid hW21; clear hW21
  clear ow0_4_0_20' ow0_4_1_20' ot5_0_20' ot5_1_20' ot6_0_20' og0_7_0_20' og0_7_1_20' oh0_20_0_n oh0_20_1_n kb1_0_20' kb1_1_20' kb1_2_20' kb1_3_20' kb1_4_20' kb1_5_20' kb1_6_20' kb1_7_20' kb2_0_20' kb2_1_20' kb2_2_20' kb2_3_20' kb2_4_20' kb2_5_20' kb2_6_20' kb2_7_20' kb3_0_20' kb3_1_20' kb3_2_20' kb3_3_20' kb3_4_20' kb3_5_20' kb3_6_20' kb3_7_20' kb4_0_20' kb4_1_20' kb4_2_20' kb4_3_20' kb4_4_20' kb4_5_20' kb4_6_20' kb4_7_20'
  refine (eqVillage_same Ar0_20 cr0_20 Rr0_20 dr0_20 Ar0_4 cr0_4 Rr0_4 dr0_4 ((vPass v0 a1 l2).1) _ oh0_20_0_21.rd oh0_20_1_21.rd ow0_4_0_21.rd ow0_4_1_21.rd).mono ?_
  rintro e w21 ⟨rfl, hb21⟩
  try simp only [Vg.val]
  have ow0_4_0_21' := Row2.below ow0_4_0_21 hb21 (by omega)
  have ow0_4_1_21' := Row2.below ow0_4_1_21 hb21 (by omega)
  have ot5_0_21' := Row2.below ot5_0_21 hb21 (by omega)
  have ot5_1_21' := Row2.below ot5_1_21 hb21 (by omega)
  have ot6_0_21' := Row2.below ot6_0_21 hb21 (by omega)
  have og0_7_0_21' := Row2.below og0_7_0_21 hb21 (by omega)
  have og0_7_1_21' := Row2.below og0_7_1_21 hb21 (by omega)
  have oh0_20_0_21' := Row2.below oh0_20_0_21 hb21 (by omega)
  have oh0_20_1_21' := Row2.below oh0_20_1_21 hb21 (by omega)
  have kb1_0_21' := (hb21.cell (p := ⟨w.heap.size, 0, none⟩) (by show w.heap.size < _; omega)).trans kb1_0_21
  have kb1_1_21' := (hb21.cell (p := ⟨w.heap.size, 1, none⟩) (by show w.heap.size < _; omega)).trans kb1_1_21
  have kb1_2_21' := (hb21.cell (p := ⟨w.heap.size, 2, none⟩) (by show w.heap.size < _; omega)).trans kb1_2_21
  have kb1_3_21' := (hb21.cell (p := ⟨w.heap.size, 3, none⟩) (by show w.heap.size < _; omega)).trans kb1_3_21
  have kb1_4_21' := (hb21.cell (p := ⟨w.heap.size, 4, none⟩) (by show w.heap.size < _; omega)).trans kb1_4_21
  have kb1_5_21' := (hb21.cell (p := ⟨w.heap.size, 5, none⟩) (by show w.heap.size < _; omega)).trans kb1_5_21
  have kb1_6_21' := (hb21.cell (p := ⟨w.heap.size, 6, none⟩) (by show w.heap.size < _; omega)).trans kb1_6_21
  have kb1_7_21' := (hb21.cell (p := ⟨w.heap.size, 7, none⟩) (by show w.heap.size < _; omega)).trans kb1_7_21
  have kb2_0_21' := (hb21.cell (p := ⟨w4.heap.size, 0, none⟩) (by show w4.heap.size < _; omega)).trans kb2_0_21
  have kb2_1_21' := (hb21.cell (p := ⟨w4.heap.size, 1, none⟩) (by show w4.heap.size < _; omega)).trans kb2_1_21
  have kb2_2_21' := (hb21.cell (p := ⟨w4.heap.size, 2, none⟩) (by show w4.heap.size < _; omega)).trans kb2_2_21
  have kb2_3_21' := (hb21.cell (p := ⟨w4.heap.size, 3, none⟩) (by show w4.heap.size < _; omega)).trans kb2_3_21
  have kb2_4_21' := (hb21.cell (p := ⟨w4.heap.size, 4, none⟩) (by show w4.heap.size < _; omega)).trans kb2_4_21
  have kb2_5_21' := (hb21.cell (p := ⟨w4.heap.size, 5, none⟩) (by show w4.heap.size < _; omega)).trans kb2_5_21
  have kb2_6_21' := (hb21.cell (p := ⟨w4.heap.size, 6, none⟩) (by show w4.heap.size < _; omega)).trans kb2_6_21
  have kb2_7_21' := (hb21.cell (p := ⟨w4.heap.size, 7, none⟩) (by show w4.heap.size < _; omega)).trans kb2_7_21
  have kb3_0_21' := (hb21.cell (p := ⟨w5.heap.size, 0, none⟩) (by show w5.heap.size < _; omega)).trans kb3_0_21
  have kb3_1_21' := (hb21.cell (p := ⟨w5.heap.size, 1, none⟩) (by show w5.heap.size < _; omega)).trans kb3_1_21
  have kb3_2_21' := (hb21.cell (p := ⟨w5.heap.size, 2, none⟩) (by show w5.heap.size < _; omega)).trans kb3_2_21
  have kb3_3_21' := (hb21.cell (p := ⟨w5.heap.size, 3, none⟩) (by show w5.heap.size < _; omega)).trans kb3_3_21
  have kb3_4_21' := (hb21.cell (p := ⟨w5.heap.size, 4, none⟩) (by show w5.heap.size < _; omega)).trans kb3_4_21
  have kb3_5_21' := (hb21.cell (p := ⟨w5.heap.size, 5, none⟩) (by show w5.heap.size < _; omega)).trans kb3_5_21
  have kb3_6_21' := (hb21.cell (p := ⟨w5.heap.size, 6, none⟩) (by show w5.heap.size < _; omega)).trans kb3_6_21
  have kb3_7_21' := (hb21.cell (p := ⟨w5.heap.size, 7, none⟩) (by show w5.heap.size < _; omega)).trans kb3_7_21
  have kb4_0_21' := (hb21.cell (p := ⟨w7.heap.size, 0, none⟩) (by show w7.heap.size < _; omega)).trans kb4_0_21
  have kb4_1_21' := (hb21.cell (p := ⟨w7.heap.size, 1, none⟩) (by show w7.heap.size < _; omega)).trans kb4_1_21
  have kb4_2_21' := (hb21.cell (p := ⟨w7.heap.size, 2, none⟩) (by show w7.heap.size < _; omega)).trans kb4_2_21
  have kb4_3_21' := (hb21.cell (p := ⟨w7.heap.size, 3, none⟩) (by show w7.heap.size < _; omega)).trans kb4_3_21
  have kb4_4_21' := (hb21.cell (p := ⟨w7.heap.size, 4, none⟩) (by show w7.heap.size < _; omega)).trans kb4_4_21
  have kb4_5_21' := (hb21.cell (p := ⟨w7.heap.size, 5, none⟩) (by show w7.heap.size < _; omega)).trans kb4_5_21
  have kb4_6_21' := (hb21.cell (p := ⟨w7.heap.size, 6, none⟩) (by show w7.heap.size < _; omega)).trans kb4_6_21
  have kb4_7_21' := (hb21.cell (p := ⟨w7.heap.size, 7, none⟩) (by show w7.heap.size < _; omega)).trans kb4_7_21
  have kb5_0_21' := (hb21.cell (p := ⟨w20.heap.size, 0, none⟩) (by show w20.heap.size < _; omega)).trans kb5_0_21
  have kb5_1_21' := (hb21.cell (p := ⟨w20.heap.size, 1, none⟩) (by show w20.heap.size < _; omega)).trans kb5_1_21
  have kb5_2_21' := (hb21.cell (p := ⟨w20.heap.size, 2, none⟩) (by show w20.heap.size < _; omega)).trans kb5_2_21
  have kb5_3_21' := (hb21.cell (p := ⟨w20.heap.size, 3, none⟩) (by show w20.heap.size < _; omega)).trans kb5_3_21
  have kb5_4_21' := (hb21.cell (p := ⟨w20.heap.size, 4, none⟩) (by show w20.heap.size < _; omega)).trans kb5_4_21
  have kb5_5_21' := (hb21.cell (p := ⟨w20.heap.size, 5, none⟩) (by show w20.heap.size < _; omega)).trans kb5_5_21
  have kb5_6_21' := (hb21.cell (p := ⟨w20.heap.size, 6, none⟩) (by show w20.heap.size < _; omega)).trans kb5_6_21
  have kb5_7_21' := (hb21.cell (p := ⟨w20.heap.size, 7, none⟩) (by show w20.heap.size < _; omega)).trans kb5_7_21
  have hB21' := hB21.trans (hb21.mono hB21.size)
  have hz21' : W21.heap.size ≤ w21.heap.size := hb21.size
  have hl_b1_21' : w.heap.size < w21.heap.size := by omega
  have hl_b2_21' : w4.heap.size < w21.heap.size := by omega
  have hl_b3_21' : w5.heap.size < w21.heap.size := by omega
  have hl_b4_21' : w7.heap.size < w21.heap.size := by omega
  have hl_b5_21' : w20.heap.size < w21.heap.size := by omega
  clear ow0_4_0_21 ow0_4_1_21 ot5_0_21 ot5_1_21 ot6_0_21 og0_7_0_21 og0_7_1_21 oh0_20_0_21 oh0_20_1_21 kb1_0_21 kb1_1_21 kb1_2_21 kb1_3_21 kb1_4_21 kb1_5_21 kb1_6_21 kb1_7_21 kb2_0_21 kb2_1_21 kb2_2_21 kb2_3_21 kb2_4_21 kb2_5_21 kb2_6_21 kb2_7_21 kb3_0_21 kb3_1_21 kb3_2_21 kb3_3_21 kb3_4_21 kb3_5_21 kb3_6_21 kb3_7_21 kb4_0_21 kb4_1_21 kb4_2_21 kb4_3_21 kb4_4_21 kb4_5_21 kb4_6_21 kb4_7_21 kb5_0_21 kb5_1_21 kb5_2_21 kb5_3_21 kb5_4_21 kb5_5_21 kb5_6_21 kb5_7_21
  go_wp2_with fail
  first | refine name_world ?_ | refine name_wp ?_
  intro W22 hW22
  have hp22 : Below w21.heap.size w21 W22 := by rw [hW22]; repeat' (first | (with_reducible exact Below.refl _ _) | (with_reducible refine Below.alloc ?_ ?_ _) | (with_reducible refine Below.setCell ?_ ?_ _) | (with_reducible refine Below.drew ?_) | (simp; done) | (simp; omega))
  have ow0_4_0_22 := Row2.below ow0_4_0_21' hp22 (by omega)
  have ow0_4_1_22 := Row2.below ow0_4_1_21' hp22 (by omega)
  have ot5_0_22 := Row2.below ot5_0_21' hp22 (by omega)
  have ot5_1_22 := Row2.below ot5_1_21' hp22 (by omega)
  have ot6_0_22 := Row2.below ot6_0_21' hp22 (by omega)
  have og0_7_0_22 := Row2.below og0_7_0_21' hp22 (by omega)
  have og0_7_1_22 := Row2.below og0_7_1_21' hp22 (by omega)
  have oh0_20_0_22 := Row2.below oh0_20_0_21' hp22 (by omega)
  have oh0_20_1_22 := Row2.below oh0_20_1_21' hp22 (by omega)
  have kb1_0_22 := (hp22.cell (p := ⟨w.heap.size, 0, none⟩) (by show w.heap.size < _; omega)).trans kb1_0_21'
  have kb1_1_22 := (hp22.cell (p := ⟨w.heap.size, 1, none⟩) (by show w.heap.size < _; omega)).trans kb1_1_21'
  have kb1_2_22 := (hp22.cell (p := ⟨w.heap.size, 2, none⟩) (by show w.heap.size < _; omega)).trans kb1_2_21'
  have kb1_3_22 := (hp22.cell (p := ⟨w.heap.size, 3, none⟩) (by show w.heap.size < _; omega)).trans kb1_3_21'
  have kb1_4_22 := (hp22.cell (p := ⟨w.heap.size, 4, none⟩) (by show w.heap.size < _; omega)).trans kb1_4_21'
  have kb1_5_22 := (hp22.cell (p := ⟨w.heap.size, 5, none⟩) (by show w.heap.size < _; omega)).trans kb1_5_21'
  have kb1_6_22 := (hp22.cell (p := ⟨w.heap.size, 6, none⟩) (by show w.heap.size < _; omega)).trans kb1_6_21'
  have kb1_7_22 := (hp22.cell (p := ⟨w.heap.size, 7, none⟩) (by show w.heap.size < _; omega)).trans kb1_7_21'
  have kb2_0_22 := (hp22.cell (p := ⟨w4.heap.size, 0, none⟩) (by show w4.heap.size < _; omega)).trans kb2_0_21'
  have kb2_1_22 := (hp22.cell (p := ⟨w4.heap.size, 1, none⟩) (by show w4.heap.size < _; omega)).trans kb2_1_21'
  have kb2_2_22 := (hp22.cell (p := ⟨w4.heap.size, 2, none⟩) (by show w4.heap.size < _; omega)).trans kb2_2_21'
  have kb2_3_22 := (hp22.cell (p := ⟨w4.heap.size, 3, none⟩) (by show w4.heap.size < _; omega)).trans kb2_3_21'
  have kb2_4_22 := (hp22.cell (p := ⟨w4.heap.size, 4, none⟩) (by show w4.heap.size < _; omega)).trans kb2_4_21'
  have kb2_5_22 := (hp22.cell (p := ⟨w4.heap.size, 5, none⟩) (by show w4.heap.size < _; omega)).trans kb2_5_21'
  have kb2_6_22 := (hp22.cell (p := ⟨w4.heap.size, 6, none⟩) (by show w4.heap.size < _; omega)).trans kb2_6_21'
  have kb2_7_22 := (hp22.cell (p := ⟨w4.heap.size, 7, none⟩) (by show w4.heap.size < _; omega)).trans kb2_7_21'
  have kb3_0_22 := (hp22.cell (p := ⟨w5.heap.size, 0, none⟩) (by show w5.heap.size < _; omega)).trans kb3_0_21'
  have kb3_1_22 := (hp22.cell (p := ⟨w5.heap.size, 1, none⟩) (by show w5.heap.size < _; omega)).trans kb3_1_21'
  have kb3_2_22 := (hp22.cell (p := ⟨w5.heap.size, 2, none⟩) (by show w5.heap.size < _; omega)).trans kb3_2_21'
  have kb3_3_22 := (hp22.cell (p := ⟨w5.heap.size, 3, none⟩) (by show w5.heap.size < _; omega)).trans kb3_3_21'
  have kb3_4_22 := (hp22.cell (p := ⟨w5.heap.size, 4, none⟩) (by show w5.heap.size < _; omega)).trans kb3_4_21'
  have kb3_5_22 := (hp22.cell (p := ⟨w5.heap.size, 5, none⟩) (by show w5.heap.size < _; omega)).trans kb3_5_21'
  have kb3_6_22 := (hp22.cell (p := ⟨w5.heap.size, 6, none⟩) (by show w5.heap.size < _; omega)).trans kb3_6_21'
  have kb3_7_22 := (hp22.cell (p := ⟨w5.heap.size, 7, none⟩) (by show w5.heap.size < _; omega)).trans kb3_7_21'
  have kb4_0_22 := (hp22.cell (p := ⟨w7.heap.size, 0, none⟩) (by show w7.heap.size < _; omega)).trans kb4_0_21'
  have kb4_1_22 := (hp22.cell (p := ⟨w7.heap.size, 1, none⟩) (by show w7.heap.size < _; omega)).trans kb4_1_21'
  have kb4_2_22 := (hp22.cell (p := ⟨w7.heap.size, 2, none⟩) (by show w7.heap.size < _; omega)).trans kb4_2_21'
  have kb4_3_22 := (hp22.cell (p := ⟨w7.heap.size, 3, none⟩) (by show w7.heap.size < _; omega)).trans kb4_3_21'
  have kb4_4_22 := (hp22.cell (p := ⟨w7.heap.size, 4, none⟩) (by show w7.heap.size < _; omega)).trans kb4_4_21'
  have kb4_5_22 := (hp22.cell (p := ⟨w7.heap.size, 5, none⟩) (by show w7.heap.size < _; omega)).trans kb4_5_21'
  have kb4_6_22 := (hp22.cell (p := ⟨w7.heap.size, 6, none⟩) (by show w7.heap.size < _; omega)).trans kb4_6_21'
  have kb4_7_22 := (hp22.cell (p := ⟨w7.heap.size, 7, none⟩) (by show w7.heap.size < _; omega)).trans kb4_7_21'
  have kb5_0_22 := (hp22.cell (p := ⟨w20.heap.size, 0, none⟩) (by show w20.heap.size < _; omega)).trans kb5_0_21'
  have kb5_1_22 := (hp22.cell (p := ⟨w20.heap.size, 1, none⟩) (by show w20.heap.size < _; omega)).trans kb5_1_21'
  have kb5_2_22 := (hp22.cell (p := ⟨w20.heap.size, 2, none⟩) (by show w20.heap.size < _; omega)).trans kb5_2_21'
  have kb5_3_22 := (hp22.cell (p := ⟨w20.heap.size, 3, none⟩) (by show w20.heap.size < _; omega)).trans kb5_3_21'
  have kb5_4_22 := (hp22.cell (p := ⟨w20.heap.size, 4, none⟩) (by show w20.heap.size < _; omega)).trans kb5_4_21'
  have kb5_5_22 := (hp22.cell (p := ⟨w20.heap.size, 5, none⟩) (by show w20.heap.size < _; omega)).trans kb5_5_21'
  have kb5_6_22 := (hp22.cell (p := ⟨w20.heap.size, 6, none⟩) (by show w20.heap.size < _; omega)).trans kb5_6_21'
  have kb5_7_22 := (hp22.cell (p := ⟨w20.heap.size, 7, none⟩) (by show w20.heap.size < _; omega)).trans kb5_7_21'
  have hB22 := hB21'.trans (hp22.mono hB21'.size)
  have hz22 : w21.heap.size ≤ W22.heap.size := hp22.size
  have hl_b1_22 : w.heap.size < W22.heap.size := by omega
  have hl_b2_22 : w4.heap.size < W22.heap.size := by omega
  have hl_b3_22 : w5.heap.size < W22.heap.size := by omega
  have hl_b4_22 : w7.heap.size < W22.heap.size := by omega
  have hl_b5_22 : w20.heap.size < W22.heap.size := by omega
  have HW22 := Lib.hid hW22; clear hW22
  clear ow0_4_0_21' ow0_4_1_21' ot5_0_21' ot5_1_21' ot6_0_21' og0_7_0_21' og0_7_1_21' oh0_20_0_21' oh0_20_1_21' kb1_0_21' kb1_1_21' kb1_2_21' kb1_3_21' kb1_4_21' kb1_5_21' kb1_6_21' kb1_7_21' kb2_0_21' kb2_1_21' kb2_2_21' kb2_3_21' kb2_4_21' kb2_5_21' kb2_6_21' kb2_7_21' kb3_0_21' kb3_1_21' kb3_2_21' kb3_3_21' kb3_4_21' kb3_5_21' kb3_6_21' kb3_7_21' kb4_0_21' kb4_1_21' kb4_2_21' kb4_3_21' kb4_4_21' kb4_5_21' kb4_6_21' kb4_7_21' kb5_0_21' kb5_1_21' kb5_2_21' kb5_3_21' kb5_4_21' kb5_5_21' kb5_6_21' kb5_7_21'
  refine (heldVillage_2 Ar0_7 cr0_7 Rr0_7 dr0_7 _ _ ((vPass v0 a1 l2).1) (1) _ (by omega) _ og0_7_0_22 og0_7_1_22 (by first | omega | (simp; omega))).mono ?_
  rintro e w22 ⟨rfl, hb22⟩
  try simp only [Vg.val]
  have ow0_4_0_22' := Row2.below ow0_4_0_22 hb22 (by omega)
  have ow0_4_1_22' := Row2.below ow0_4_1_22 hb22 (by omega)
  have ot5_0_22' := Row2.below ot5_0_22 hb22 (by omega)
  have ot5_1_22' := Row2.below ot5_1_22 hb22 (by omega)
  have ot6_0_22' := Row2.below ot6_0_22 hb22 (by omega)
  have og0_7_0_22' := Row2.below og0_7_0_22 hb22 (by omega)
  have og0_7_1_22' := Row2.below og0_7_1_22 hb22 (by omega)
  have oh0_20_0_22' := Row2.below oh0_20_0_22 hb22 (by omega)
  have oh0_20_1_22' := Row2.below oh0_20_1_22 hb22 (by omega)
  have kb1_0_22' := (hb22.cell (p := ⟨w.heap.size, 0, none⟩) (by show w.heap.size < _; omega)).trans kb1_0_22
  have kb1_1_22' := (hb22.cell (p := ⟨w.heap.size, 1, none⟩) (by show w.heap.size < _; omega)).trans kb1_1_22
  have kb1_2_22' := (hb22.cell (p := ⟨w.heap.size, 2, none⟩) (by show w.heap.size < _; omega)).trans kb1_2_22
  have kb1_3_22' := (hb22.cell (p := ⟨w.heap.size, 3, none⟩) (by show w.heap.size < _; omega)).trans kb1_3_22
  have kb1_4_22' := (hb22.cell (p := ⟨w.heap.size, 4, none⟩) (by show w.heap.size < _; omega)).trans kb1_4_22
  have kb1_5_22' := (hb22.cell (p := ⟨w.heap.size, 5, none⟩) (by show w.heap.size < _; omega)).trans kb1_5_22
  have kb1_6_22' := (hb22.cell (p := ⟨w.heap.size, 6, none⟩) (by show w.heap.size < _; omega)).trans kb1_6_22
  have kb1_7_22' := (hb22.cell (p := ⟨w.heap.size, 7, none⟩) (by show w.heap.size < _; omega)).trans kb1_7_22
  have kb2_0_22' := (hb22.cell (p := ⟨w4.heap.size, 0, none⟩) (by show w4.heap.size < _; omega)).trans kb2_0_22
  have kb2_1_22' := (hb22.cell (p := ⟨w4.heap.size, 1, none⟩) (by show w4.heap.size < _; omega)).trans kb2_1_22
  have kb2_2_22' := (hb22.cell (p := ⟨w4.heap.size, 2, none⟩) (by show w4.heap.size < _; omega)).trans kb2_2_22
  have kb2_3_22' := (hb22.cell (p := ⟨w4.heap.size, 3, none⟩) (by show w4.heap.size < _; omega)).trans kb2_3_22
  have kb2_4_22' := (hb22.cell (p := ⟨w4.heap.size, 4, none⟩) (by show w4.heap.size < _; omega)).trans kb2_4_22
  have kb2_5_22' := (hb22.cell (p := ⟨w4.heap.size, 5, none⟩) (by show w4.heap.size < _; omega)).trans kb2_5_22
  have kb2_6_22' := (hb22.cell (p := ⟨w4.heap.size, 6, none⟩) (by show w4.heap.size < _; omega)).trans kb2_6_22
  have kb2_7_22' := (hb22.cell (p := ⟨w4.heap.size, 7, none⟩) (by show w4.heap.size < _; omega)).trans kb2_7_22
  have kb3_0_22' := (hb22.cell (p := ⟨w5.heap.size, 0, none⟩) (by show w5.heap.size < _; omega)).trans kb3_0_22
  have kb3_1_22' := (hb22.cell (p := ⟨w5.heap.size, 1, none⟩) (by show w5.heap.size < _; omega)).trans kb3_1_22
  have kb3_2_22' := (hb22.cell (p := ⟨w5.heap.size, 2, none⟩) (by show w5.heap.size < _; omega)).trans kb3_2_22
  have kb3_3_22' := (hb22.cell (p := ⟨w5.heap.size, 3, none⟩) (by show w5.heap.size < _; omega)).trans kb3_3_22
  have kb3_4_22' := (hb22.cell (p := ⟨w5.heap.size, 4, none⟩) (by show w5.heap.size < _; omega)).trans kb3_4_22
  have kb3_5_22' := (hb22.cell (p := ⟨w5.heap.size, 5, none⟩) (by show w5.heap.size < _; omega)).trans kb3_5_22
  have kb3_6_22' := (hb22.cell (p := ⟨w5.heap.size, 6, none⟩) (by show w5.heap.size < _; omega)).trans kb3_6_22
  have kb3_7_22' := (hb22.cell (p := ⟨w5.heap.size, 7, none⟩) (by show w5.heap.size < _; omega)).trans kb3_7_22
  have kb4_0_22' := (hb22.cell (p := ⟨w7.heap.size, 0, none⟩) (by show w7.heap.size < _; omega)).trans kb4_0_22
  have kb4_1_22' := (hb22.cell (p := ⟨w7.heap.size, 1, none⟩) (by show w7.heap.size < _; omega)).trans kb4_1_22
  have kb4_2_22' := (hb22.cell (p := ⟨w7.heap.size, 2, none⟩) (by show w7.heap.size < _; omega)).trans kb4_2_22
  have kb4_3_22' := (hb22.cell (p := ⟨w7.heap.size, 3, none⟩) (by show w7.heap.size < _; omega)).trans kb4_3_22
  have kb4_4_22' := (hb22.cell (p := ⟨w7.heap.size, 4, none⟩) (by show w7.heap.size < _; omega)).trans kb4_4_22
  have kb4_5_22' := (hb22.cell (p := ⟨w7.heap.size, 5, none⟩) (by show w7.heap.size < _; omega)).trans kb4_5_22
  have kb4_6_22' := (hb22.cell (p := ⟨w7.heap.size, 6, none⟩) (by show w7.heap.size < _; omega)).trans kb4_6_22
  have kb4_7_22' := (hb22.cell (p := ⟨w7.heap.size, 7, none⟩) (by show w7.heap.size < _; omega)).trans kb4_7_22
  have kb5_0_22' := (hb22.cell (p := ⟨w20.heap.size, 0, none⟩) (by show w20.heap.size < _; omega)).trans kb5_0_22
  have kb5_1_22' := (hb22.cell (p := ⟨w20.heap.size, 1, none⟩) (by show w20.heap.size < _; omega)).trans kb5_1_22
  have kb5_2_22' := (hb22.cell (p := ⟨w20.heap.size, 2, none⟩) (by show w20.heap.size < _; omega)).trans kb5_2_22
  have kb5_3_22' := (hb22.cell (p := ⟨w20.heap.size, 3, none⟩) (by show w20.heap.size < _; omega)).trans kb5_3_22
  have kb5_4_22' := (hb22.cell (p := ⟨w20.heap.size, 4, none⟩) (by show w20.heap.size < _; omega)).trans kb5_4_22
  have kb5_5_22' := (hb22.cell (p := ⟨w20.heap.size, 5, none⟩) (by show w20.heap.size < _; omega)).trans kb5_5_22
  have kb5_6_22' := (hb22.cell (p := ⟨w20.heap.size, 6, none⟩) (by show w20.heap.size < _; omega)).trans kb5_6_22
  have kb5_7_22' := (hb22.cell (p := ⟨w20.heap.size, 7, none⟩) (by show w20.heap.size < _; omega)).trans kb5_7_22
  have hB22' := hB22.trans (hb22.mono hB22.size)
  have hz22' : W22.heap.size ≤ w22.heap.size := hb22.size
  have hl_b1_22' : w.heap.size < w22.heap.size := by omega
  have hl_b2_22' : w4.heap.size < w22.heap.size := by omega
  have hl_b3_22' : w5.heap.size < w22.heap.size := by omega
  have hl_b4_22' : w7.heap.size < w22.heap.size := by omega
  have hl_b5_22' : w20.heap.size < w22.heap.size := by omega
  clear ow0_4_0_22 ow0_4_1_22 ot5_0_22 ot5_1_22 ot6_0_22 og0_7_0_22 og0_7_1_22 oh0_20_0_22 oh0_20_1_22 kb1_0_22 kb1_1_22 kb1_2_22 kb1_3_22 kb1_4_22 kb1_5_22 kb1_6_22 kb1_7_22 kb2_0_22 kb2_1_22 kb2_2_22 kb2_3_22 kb2_4_22 kb2_5_22 kb2_6_22 kb2_7_22 kb3_0_22 kb3_1_22 kb3_2_22 kb3_3_22 kb3_4_22 kb3_5_22 kb3_6_22 kb3_7_22 kb4_0_22 kb4_1_22 kb4_2_22 kb4_3_22 kb4_4_22 kb4_5_22 kb4_6_22 kb4_7_22 kb5_0_22 kb5_1_22 kb5_2_22 kb5_3_22 kb5_4_22 kb5_5_22 kb5_6_22 kb5_7_22
  go_wp2_with fail
  go_ret
  exact ⟨rfl, by first | exact hB22' | (refine hB22'.trans (Below.mono (B := w22.heap.size) ?_ hB22'.size); repeat' (first | (with_reducible exact Below.refl _ _) | (with_reducible refine Below.alloc ?_ ?_ _) | (with_reducible refine Below.setCell ?_ ?_ _) | (with_reducible refine Below.drew ?_) | (simp; done) | (simp; omega)))⟩
set_option maxRecDepth 100000 in
theorem lifted_FnExactPassOn (os : Os) (started : os.Started) (H : Type) (enc : TypeId × Value → H) :
    ReturnsInHanded {} Try.checked os 5 .any (Rows.fnExactPassOnSpec.pre6 enc Try.prog Try.f5 Rows.fnExactPassOnRow.domain false) (Rows.fnExactPassOnSpec.post enc Try.prog Try.f5 false true false false) := by
  refine returnsInHanded_of_change (C := Try.checked) own_knob started (by kernel_rfl) Try.func5
    (ChangeSpec.witness6 (enc := enc) (C := Try.checked) false ⟨#[], #[.agg #[.int .i64 0, .int .i64 0, .slice none 0 0, .int .i64 0, .int .i64 0, .int .i64 0, .int .i64 0, .slice none 0 0], .int .i64 0, .slice none 0 0], []⟩ 8 (by kernel_rfl) (by kernel_rfl) (by kernel_rfl) (by kernel_rfl)) ?_
  intro W base args ds gs before hval0 hW hcnd _
  have hval : ∀ (j : Nat) t v, Try.f5.params[j]? = some t → args[j]? = some v → Value.okWide Try.prog W .any base t v := hval0
  have hW' := hW
  obtain ⟨p, q, hA0, hV, rfl, hfz, hnd⟩ := hW
  have hA : DataW.TrodAll enc Try.prog W 0 (fun _ => true) true Try.f5.params.toList args.toList ds p := hA0
  rw [Try.params5] at hA hval
  obtain ⟨v0, vs0, d0, ds0, p0, q0, hargs, rfl, rfl, h0, r0⟩ := trodAll_cons hA
  obtain ⟨v1, vs1, d1, ds1, p1, q1, rfl, rfl, rfl, h1, r1⟩ := trodAll_cons r0
  obtain ⟨v2, vs2, d2, ds2, p2, q2, rfl, rfl, rfl, h2, r2⟩ := trodAll_cons r1
  obtain ⟨rfl, rfl, rfl⟩ := trodAll_nil r2
  obtain rfl : args = #[v0, v1, v2] := by cases args; simp_all
  obtain ⟨rfl, rfl⟩ := trodVars_none hV
  obtain ⟨A0, c0, B0, e0, x0, rfl, hr0, hq0⟩ := arg_village (hval 0 38 v0 rfl rfl) h0
  have lt0 : ∀ x ∈ p0, x.block < W.heap.size := by obtain ⟨m, hm⟩ := h0; exact DataW.trod_lt m _ _ _ hm
  obtain ⟨a1, rfl, hi1⟩ := arg_int (hval 1 3 v1 rfl rfl) h1
  have lt1 : ∀ x ∈ p1, x.block < W.heap.size := by obtain ⟨m, hm⟩ := h1; exact DataW.trod_lt m _ _ _ hm
  obtain ⟨A2, c2, l2, rfl, hr2⟩ := arg_ints (hval 2 24 v2 rfl rfl) h2
  have lt2 : ∀ x ∈ p2, x.block < W.heap.size := by obtain ⟨m, hm⟩ := h2; exact DataW.trod_lt m _ _ _ hm
  clear hA0 hval0
  refine (walk_FnExactPassOn W A0 c0 B0 e0 x0 hr0 hq0 a1 hi1 A2 c2 l2 hr2).mono fun e W' ⟨he, bel⟩ => ?_
  subst he
  exact ⟨_, rfl, _, _, _, [], _, [], hW', trodAll_mk1 (shut_bool Try.underlying4 _), (trodAll_cons_mk (Below.trod laid_out (by kernel_rfl) (of_decide_eq_true (by kernel_rfl)) h0 bel lt0) (trodAll_cons_mk (Below.trod laid_out (by kernel_rfl) (of_decide_eq_true (by kernel_rfl)) h1 bel lt1) (trodAll_cons_mk (Below.trod laid_out (by kernel_rfl) (of_decide_eq_true (by kernel_rfl)) h2 bel lt2) trodAll_mk0))), rfl, bel.frame _, fun h => by cases h⟩

theorem fnExactPassOn_holds : Rows.FnExactPassOnSaid :=
  OpenClaim.holds_of_wide 5 Try.f5 rfl rfl rfl rfl rfl rfl rfl ⟨rfl, rfl, rfl, rfl, rfl⟩ rfl rfl rfl rfl rfl (by kernel_rfl) Try.func5 (by kernel_rfl)
    (of_decide_eq_true (by kernel_rfl)) (by unfold Func.isWrapper; rw [if_neg (by decide +kernel)]; exact ⟨rfl, rfl⟩)
    (fun os started H enc _ => lifted_FnExactPassOn os started H enc)
end Go.Proofs.Ytljidaniidfdoaa
