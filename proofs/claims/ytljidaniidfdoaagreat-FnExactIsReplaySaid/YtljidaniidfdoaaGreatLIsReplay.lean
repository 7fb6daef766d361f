/- The law FnExactIsReplay answers true for every village, every list of acts and every list of numbers. No conditions. -/
import Derived.Test.YtljidaniidfdoaaGreatVill2
import Derived.Test.YtljidaniidfdoaaGreatIsReplay
import Derived.Test.YtljidaniidfdoaaGreatKe
import Derived.Deep.RegionHeld3
import Derived.Test.YtljidaniidfdoaaGreatTo
import Derived.Test.YtljidaniidfdoaaGreatKb
namespace Go.Proofs.YtljidaniidfdoaaGreat
open Go.ChangeShapes Go.WideShapes Go.ChangeAt Go.RowKit
set_option maxRecDepth 20000
set_option maxHeartbeats 6400000 in
theorem walk_FnExactIsReplay (w : World) (A0 : Option Addr) (c0 : Nat) (R0 : Option Addr) (d0 : Nat) (v0 : Vg) (h0_0 : RdT w w.heap.size A0 c0 v0.book.evs) (h0_1 : RdT w w.heap.size R0 d0 v0.rights) (A1 : Option Addr) (c1 : Nat) (l1 : List T3) (h1_0 : RdT w w.heap.size A1 c1 l1) (A2 : Option Addr) (c2 : Nat) (l2 : List Int) (h2_0 : RdI w w.heap.size A2 c2 l2) :
    Calls Tryz.prog 5 #[(Vg.val v0 A0 c0 R0 d0), .slice A1 l1.length c1, .slice A2 l2.length c2] w fun e w' => e = .returned (.bool true) ∧ Below w.heap.size w w' := by
  by_cases hbig2 : (1048576 : Int) < l2.length
  · unfold Vg.val; go_enter Tryz.func5, Tryz.ntmps5
    go_wp2
    go_ret
    exact ⟨rfl, by first | exact Below.refl _ _ | repeat' (first | (with_reducible exact Below.refl _ _) | (with_reducible assumption) | (with_reducible refine Below.alloc ?_ ?_ _) | (with_reducible refine Below.setCell ?_ ?_ _) | (with_reducible refine Below.drew ?_) | (with_reducible refine below_drewN ?_ _) | (refine Below.trans ?_ (Below.mono (by with_reducible assumption) ?_)) | omega | (simp; done) | (simp; omega))⟩
  have hs2 : l2.length ≤ 1048576 := by omega
  by_cases hbig0 : (1048576 : Int) < (v0.book.evs.length + v0.rights.length)
  · unfold Vg.val; go_enter Tryz.func5, Tryz.ntmps5
    go_wp2_with fail
    refine (szVillage_big A0 c0 R0 d0 v0 _ _ (by omega) (by omega) (by omega) (by have := h0_0.le; omega) (by have := h0_1.le; omega)).mono ?_
    rintro e w0' ⟨rfl, hb0'⟩
    go_wp2_with fail
    go_ret
    exact ⟨rfl, by exact tacT⟩
  have hs0 : (v0.book.evs.length + v0.rights.length) ≤ 1048576 := by omega
  by_cases hbig1 : (1048576 - (v0.book.evs.length + v0.rights.length) : Int) < l1.length
  · unfold Vg.val; go_enter Tryz.func5, Tryz.ntmps5
    go_wp2_with fail
    refine (szVillage_ok A0 c0 R0 d0 v0 _ _ (by omega) (by omega)).mono ?_
    rintro e w0' ⟨rfl, hb0'⟩
    have hsz0' : w.heap.size ≤ w0'.heap.size := by have h9 := hb0'.size; first | omega | (simp at h9; omega)
    go_wp2_with fail
    refine (szActS_big A1 c1 l1 _ _ (by omega) (by omega) (by have := h1_0.le; omega)).mono ?_
    rintro e w1' ⟨rfl, hb1'⟩
    go_wp2_with fail
    go_ret
    exact ⟨rfl, by exact tacT⟩
  have hs1 : l1.length ≤ 1048576 := by omega
  obtain ⟨r0, hr_0⟩ : ∃ r, r = (isReplay v0 l1 l2) := ⟨_, rfl⟩
  have HR0 := Lib.hid hr_0; clear hr_0
  have hq0 : (r0 != r0) = false := by simp
  have hB0 : Below w.heap.size w w := Below.refl _ _
  unfold Vg.val; go_enter Tryz.func5, Tryz.ntmps5
  go_wp2_with fail
  first | refine name_world ?_ | refine name_wp ?_
  intro W1 hW1
  have hp1 : Below w.heap.size w W1 := by rw [hW1]; repeat' (first | (with_reducible exact Below.refl _ _) | (with_reducible refine Below.alloc ?_ ?_ _) | (with_reducible refine Below.setCell ?_ ?_ _) | (with_reducible refine Below.drew ?_) | (simp; done) | (simp; omega))
  have kb1_0_1 : W1.cell? ⟨w.heap.size, 0, none⟩ = some (.int .i64 v0.book.room) := by rw [hW1]; simp [go_sem]
  have kb1_1_1 : W1.cell? ⟨w.heap.size, 1, none⟩ = some (.int .i64 v0.book.start) := by rw [hW1]; simp [go_sem]
  have kb1_2_1 : W1.cell? ⟨w.heap.size, 2, none⟩ = some (.slice A0 v0.book.evs.length c0) := by rw [hW1]; simp [go_sem]
  have kb1_3_1 : W1.cell? ⟨w.heap.size, 3, none⟩ = some (.int .i64 v0.book.level) := by rw [hW1]; simp [go_sem]
  have kb1_4_1 : W1.cell? ⟨w.heap.size, 4, none⟩ = some (.int .i64 v0.book.rained) := by rw [hW1]; simp [go_sem]
  have kb1_5_1 : W1.cell? ⟨w.heap.size, 5, none⟩ = some (.int .i64 v0.book.drunk) := by rw [hW1]; simp [go_sem]
  have kb1_6_1 : W1.cell? ⟨w.heap.size, 6, none⟩ = some (.int .i64 v0.book.lost) := by rw [hW1]; simp [go_sem]
  have kb1_7_1 : W1.cell? ⟨w.heap.size, 7, none⟩ = some (.slice R0 v0.rights.length d0) := by rw [hW1]; simp [go_sem]
  have hl_b1 : w.heap.size < W1.heap.size := by rw [hW1]; first | (simp; done) | (simp; omega)
  have hB1 := hB0.trans (hp1.mono hB0.size)
  have hz1 : w.heap.size ≤ W1.heap.size := hp1.size
  have HW1 := Lib.hid hW1; clear hW1
  refine (szVillage_ok A0 c0 R0 d0 v0 _ _ (by omega) (by omega)).mono ?_
  rintro e w1 ⟨rfl, hb1⟩
  try simp only [Vg.val]
  have kb1_0_1' := (hb1.cell (p := ⟨w.heap.size, 0, none⟩) (by show w.heap.size < _; omega)).trans kb1_0_1
  have kb1_1_1' := (hb1.cell (p := ⟨w.heap.size, 1, none⟩) (by show w.heap.size < _; omega)).trans kb1_1_1
  have kb1_2_1' := (hb1.cell (p := ⟨w.heap.size, 2, none⟩) (by show w.heap.size < _; omega)).trans kb1_2_1
  have kb1_3_1' := (hb1.cell (p := ⟨w.heap.size, 3, none⟩) (by show w.heap.size < _; omega)).trans kb1_3_1
  have kb1_4_1' := (hb1.cell (p := ⟨w.heap.size, 4, none⟩) (by show w.heap.size < _; omega)).trans kb1_4_1
  have kb1_5_1' := (hb1.cell (p := ⟨w.heap.size, 5, none⟩) (by show w.heap.size < _; omega)).trans kb1_5_1
  have kb1_6_1' := (hb1.cell (p := ⟨w.heap.size, 6, none⟩) (by show w.heap.size < _; omega)).trans kb1_6_1
  have kb1_7_1' := (hb1.cell (p := ⟨w.heap.size, 7, none⟩) (by show w.heap.size < _; omega)).trans kb1_7_1
  have hB1' := hB1.trans (hb1.mono hB1.size)
  have hz1' : W1.heap.size ≤ w1.heap.size := hb1.size
  have hl_b1_1' : w.heap.size < w1.heap.size := by omega
  clear kb1_0_1 kb1_1_1 kb1_2_1 kb1_3_1 kb1_4_1 kb1_5_1 kb1_6_1 kb1_7_1
  go_wp2_with fail
  first | refine name_world ?_ | refine name_wp ?_
  intro W2 hW2
  have hp2 : Below w1.heap.size w1 W2 := by rw [hW2]; repeat' (first | (with_reducible exact Below.refl _ _) | (with_reducible refine Below.alloc ?_ ?_ _) | (with_reducible refine Below.setCell ?_ ?_ _) | (with_reducible refine Below.drew ?_) | (simp; done) | (simp; omega))
  have kb1_0_2 := (hp2.cell (p := ⟨w.heap.size, 0, none⟩) (by show w.heap.size < _; omega)).trans kb1_0_1'
  have kb1_1_2 := (hp2.cell (p := ⟨w.heap.size, 1, none⟩) (by show w.heap.size < _; omega)).trans kb1_1_1'
  have kb1_2_2 := (hp2.cell (p := ⟨w.heap.size, 2, none⟩) (by show w.heap.size < _; omega)).trans kb1_2_1'
  have kb1_3_2 := (hp2.cell (p := ⟨w.heap.size, 3, none⟩) (by show w.heap.size < _; omega)).trans kb1_3_1'
  have kb1_4_2 := (hp2.cell (p := ⟨w.heap.size, 4, none⟩) (by show w.heap.size < _; omega)).trans kb1_4_1'
  have kb1_5_2 := (hp2.cell (p := ⟨w.heap.size, 5, none⟩) (by show w.heap.size < _; omega)).trans kb1_5_1'
  have kb1_6_2 := (hp2.cell (p := ⟨w.heap.size, 6, none⟩) (by show w.heap.size < _; omega)).trans kb1_6_1'
  have kb1_7_2 := (hp2.cell (p := ⟨w.heap.size, 7, none⟩) (by show w.heap.size < _; omega)).trans kb1_7_1'
  have hB2 := hB1'.trans (hp2.mono hB1'.size)
  have hz2 : w1.heap.size ≤ W2.heap.size := hp2.size
  have hl_b1_2 : w.heap.size < W2.heap.size := by omega
  have HW2 := Lib.hid hW2; clear hW2
  clear kb1_0_1' kb1_1_1' kb1_2_1' kb1_3_1' kb1_4_1' kb1_5_1' kb1_6_1' kb1_7_1'
  refine (szActS_ok A1 c1 l1 _ _ (by omega) (by omega)).mono ?_
  rintro e w2 ⟨rfl, hb2⟩
  try simp only [Vg.val]
  have kb1_0_2' := (hb2.cell (p := ⟨w.heap.size, 0, none⟩) (by show w.heap.size < _; omega)).trans kb1_0_2
  have kb1_1_2' := (hb2.cell (p := ⟨w.heap.size, 1, none⟩) (by show w.heap.size < _; omega)).trans kb1_1_2
  have kb1_2_2' := (hb2.cell (p := ⟨w.heap.size, 2, none⟩) (by show w.heap.size < _; omega)).trans kb1_2_2
  have kb1_3_2' := (hb2.cell (p := ⟨w.heap.size, 3, none⟩) (by show w.heap.size < _; omega)).trans kb1_3_2
  have kb1_4_2' := (hb2.cell (p := ⟨w.heap.size, 4, none⟩) (by show w.heap.size < _; omega)).trans kb1_4_2
  have kb1_5_2' := (hb2.cell (p := ⟨w.heap.size, 5, none⟩) (by show w.heap.size < _; omega)).trans kb1_5_2
  have kb1_6_2' := (hb2.cell (p := ⟨w.heap.size, 6, none⟩) (by show w.heap.size < _; omega)).trans kb1_6_2
  have kb1_7_2' := (hb2.cell (p := ⟨w.heap.size, 7, none⟩) (by show w.heap.size < _; omega)).trans kb1_7_2
  have hB2' := hB2.trans (hb2.mono hB2.size)
  have hz2' : W2.heap.size ≤ w2.heap.size := hb2.size
  have hl_b1_2' : w.heap.size < w2.heap.size := by omega
  clear kb1_0_2 kb1_1_2 kb1_2_2 kb1_3_2 kb1_4_2 kb1_5_2 kb1_6_2 kb1_7_2
  go_wp2_with fail
  first | refine name_world ?_ | refine name_wp ?_
  intro W3 hW3
  have hp3 : Below w2.heap.size w2 W3 := by rw [hW3]; repeat' (first | (with_reducible exact Below.refl _ _) | (with_reducible refine Below.alloc ?_ ?_ _) | (with_reducible refine Below.setCell ?_ ?_ _) | (with_reducible refine Below.drew ?_) | (simp; done) | (simp; omega))
  have kb1_0_3 := (hp3.cell (p := ⟨w.heap.size, 0, none⟩) (by show w.heap.size < _; omega)).trans kb1_0_2'
  have kb1_1_3 := (hp3.cell (p := ⟨w.heap.size, 1, none⟩) (by show w.heap.size < _; omega)).trans kb1_1_2'
  have kb1_2_3 := (hp3.cell (p := ⟨w.heap.size, 2, none⟩) (by show w.heap.size < _; omega)).trans kb1_2_2'
  have kb1_3_3 := (hp3.cell (p := ⟨w.heap.size, 3, none⟩) (by show w.heap.size < _; omega)).trans kb1_3_2'
  have kb1_4_3 := (hp3.cell (p := ⟨w.heap.size, 4, none⟩) (by show w.heap.size < _; omega)).trans kb1_4_2'
  have kb1_5_3 := (hp3.cell (p := ⟨w.heap.size, 5, none⟩) (by show w.heap.size < _; omega)).trans kb1_5_2'
  have kb1_6_3 := (hp3.cell (p := ⟨w.heap.size, 6, none⟩) (by show w.heap.size < _; omega)).trans kb1_6_2'
  have kb1_7_3 := (hp3.cell (p := ⟨w.heap.size, 7, none⟩) (by show w.heap.size < _; omega)).trans kb1_7_2'
  have hB3 := hB2'.trans (hp3.mono hB2'.size)
  have hz3 : w2.heap.size ≤ W3.heap.size := hp3.size
  have hl_b1_3 : w.heap.size < W3.heap.size := by omega
  have HW3 := Lib.hid hW3; clear hW3
  clear kb1_0_2' kb1_1_2' kb1_2_2' kb1_3_2' kb1_4_2' kb1_5_2' kb1_6_2' kb1_7_2'
  refine (toVillage_any A0 c0 R0 d0 v0 _ (Rd.later h0_0 hB3) (Rd.later h0_1 hB3) hs0).mono ?_
  rintro e w3 ⟨A'3, c'3, R'3, d'3, rfl, ho0_3, ho1_3, hb3⟩
  try simp only [Vg.val]
  have kb1_0_3' := (hb3.cell (p := ⟨w.heap.size, 0, none⟩) (by show w.heap.size < _; omega)).trans kb1_0_3
  have kb1_1_3' := (hb3.cell (p := ⟨w.heap.size, 1, none⟩) (by show w.heap.size < _; omega)).trans kb1_1_3
  have kb1_2_3' := (hb3.cell (p := ⟨w.heap.size, 2, none⟩) (by show w.heap.size < _; omega)).trans kb1_2_3
  have kb1_3_3' := (hb3.cell (p := ⟨w.heap.size, 3, none⟩) (by show w.heap.size < _; omega)).trans kb1_3_3
  have kb1_4_3' := (hb3.cell (p := ⟨w.heap.size, 4, none⟩) (by show w.heap.size < _; omega)).trans kb1_4_3
  have kb1_5_3' := (hb3.cell (p := ⟨w.heap.size, 5, none⟩) (by show w.heap.size < _; omega)).trans kb1_5_3
  have kb1_6_3' := (hb3.cell (p := ⟨w.heap.size, 6, none⟩) (by show w.heap.size < _; omega)).trans kb1_6_3
  have kb1_7_3' := (hb3.cell (p := ⟨w.heap.size, 7, none⟩) (by show w.heap.size < _; omega)).trans kb1_7_3
  have hB3' := hB3.trans (hb3.mono hB3.size)
  have hz3' : W3.heap.size ≤ w3.heap.size := hb3.size
  have hl_b1_3' : w.heap.size < w3.heap.size := by omega
  have ot3_0_n := Row2.born ho0_3
  have ot3_1_n := Row2.born ho1_3
  clear kb1_0_3 kb1_1_3 kb1_2_3 kb1_3_3 kb1_4_3 kb1_5_3 kb1_6_3 kb1_7_3 ho0_3 ho1_3
  go_wp2_with fail
  first | refine name_world ?_ | refine name_wp ?_
  intro W4 hW4
  have hp4 : Below w3.heap.size w3 W4 := by rw [hW4]; repeat' (first | (with_reducible exact Below.refl _ _) | (with_reducible refine Below.alloc ?_ ?_ _) | (with_reducible refine Below.setCell ?_ ?_ _) | (with_reducible refine Below.drew ?_) | (simp; done) | (simp; omega))
  have ot3_0_4 := Row2.below ot3_0_n hp4 (by omega)
  have ot3_1_4 := Row2.below ot3_1_n hp4 (by omega)
  have kb1_0_4 := (hp4.cell (p := ⟨w.heap.size, 0, none⟩) (by show w.heap.size < _; omega)).trans kb1_0_3'
  have kb1_1_4 := (hp4.cell (p := ⟨w.heap.size, 1, none⟩) (by show w.heap.size < _; omega)).trans kb1_1_3'
  have kb1_2_4 := (hp4.cell (p := ⟨w.heap.size, 2, none⟩) (by show w.heap.size < _; omega)).trans kb1_2_3'
  have kb1_3_4 := (hp4.cell (p := ⟨w.heap.size, 3, none⟩) (by show w.heap.size < _; omega)).trans kb1_3_3'
  have kb1_4_4 := (hp4.cell (p := ⟨w.heap.size, 4, none⟩) (by show w.heap.size < _; omega)).trans kb1_4_3'
  have kb1_5_4 := (hp4.cell (p := ⟨w.heap.size, 5, none⟩) (by show w.heap.size < _; omega)).trans kb1_5_3'
  have kb1_6_4 := (hp4.cell (p := ⟨w.heap.size, 6, none⟩) (by show w.heap.size < _; omega)).trans kb1_6_3'
  have kb1_7_4 := (hp4.cell (p := ⟨w.heap.size, 7, none⟩) (by show w.heap.size < _; omega)).trans kb1_7_3'
  have hB4 := hB3'.trans (hp4.mono hB3'.size)
  have hz4 : w3.heap.size ≤ W4.heap.size := hp4.size
  have hl_b1_4 : w.heap.size < W4.heap.size := by omega
  have HW4 := Lib.hid hW4; clear hW4
  clear ot3_0_n ot3_1_n kb1_0_3' kb1_1_3' kb1_2_3' kb1_3_3' kb1_4_3' kb1_5_3' kb1_6_3' kb1_7_3'
  refine (toActS_any A1 c1 l1 _ (Rd.later h1_0 hB4) hs1).mono ?_
  rintro e w4 ⟨A'4, c'4, rfl, ho0_4, hb4⟩
  try simp only [Vg.val]
  have ot3_0_4' := Row2.below ot3_0_4 hb4 (by omega)
  have ot3_1_4' := Row2.below ot3_1_4 hb4 (by omega)
  have kb1_0_4' := (hb4.cell (p := ⟨w.heap.size, 0, none⟩) (by show w.heap.size < _; omega)).trans kb1_0_4
  have kb1_1_4' := (hb4.cell (p := ⟨w.heap.size, 1, none⟩) (by show w.heap.size < _; omega)).trans kb1_1_4
  have kb1_2_4' := (hb4.cell (p := ⟨w.heap.size, 2, none⟩) (by show w.heap.size < _; omega)).trans kb1_2_4
  have kb1_3_4' := (hb4.cell (p := ⟨w.heap.size, 3, none⟩) (by show w.heap.size < _; omega)).trans kb1_3_4
  have kb1_4_4' := (hb4.cell (p := ⟨w.heap.size, 4, none⟩) (by show w.heap.size < _; omega)).trans kb1_4_4
  have kb1_5_4' := (hb4.cell (p := ⟨w.heap.size, 5, none⟩) (by show w.heap.size < _; omega)).trans kb1_5_4
  have kb1_6_4' := (hb4.cell (p := ⟨w.heap.size, 6, none⟩) (by show w.heap.size < _; omega)).trans kb1_6_4
  have kb1_7_4' := (hb4.cell (p := ⟨w.heap.size, 7, none⟩) (by show w.heap.size < _; omega)).trans kb1_7_4
  have hB4' := hB4.trans (hb4.mono hB4.size)
  have hz4' : W4.heap.size ≤ w4.heap.size := hb4.size
  have hl_b1_4' : w.heap.size < w4.heap.size := by omega
  have ot4_0_n := Row2.born ho0_4
  clear ot3_0_4 ot3_1_4 kb1_0_4 kb1_1_4 kb1_2_4 kb1_3_4 kb1_4_4 kb1_5_4 kb1_6_4 kb1_7_4 ho0_4
  go_wp2_with fail
  first | refine name_world ?_ | refine name_wp ?_
  intro W5 hW5
  have hp5 : Below w4.heap.size w4 W5 := by rw [hW5]; repeat' (first | (with_reducible exact Below.refl _ _) | (with_reducible refine Below.alloc ?_ ?_ _) | (with_reducible refine Below.setCell ?_ ?_ _) | (with_reducible refine Below.drew ?_) | (simp; done) | (simp; omega))
  have ot3_0_5 := Row2.below ot3_0_4' hp5 (by omega)
  have ot3_1_5 := Row2.below ot3_1_4' hp5 (by omega)
  have ot4_0_5 := Row2.below ot4_0_n hp5 (by omega)
  have kb1_0_5 := (hp5.cell (p := ⟨w.heap.size, 0, none⟩) (by show w.heap.size < _; omega)).trans kb1_0_4'
  have kb1_1_5 := (hp5.cell (p := ⟨w.heap.size, 1, none⟩) (by show w.heap.size < _; omega)).trans kb1_1_4'
  have kb1_2_5 := (hp5.cell (p := ⟨w.heap.size, 2, none⟩) (by show w.heap.size < _; omega)).trans kb1_2_4'
  have kb1_3_5 := (hp5.cell (p := ⟨w.heap.size, 3, none⟩) (by show w.heap.size < _; omega)).trans kb1_3_4'
  have kb1_4_5 := (hp5.cell (p := ⟨w.heap.size, 4, none⟩) (by show w.heap.size < _; omega)).trans kb1_4_4'
  have kb1_5_5 := (hp5.cell (p := ⟨w.heap.size, 5, none⟩) (by show w.heap.size < _; omega)).trans kb1_5_4'
  have kb1_6_5 := (hp5.cell (p := ⟨w.heap.size, 6, none⟩) (by show w.heap.size < _; omega)).trans kb1_6_4'
  have kb1_7_5 := (hp5.cell (p := ⟨w.heap.size, 7, none⟩) (by show w.heap.size < _; omega)).trans kb1_7_4'
  have hB5 := hB4'.trans (hp5.mono hB4'.size)
  have hz5 : w4.heap.size ≤ W5.heap.size := hp5.size
  have hl_b1_5 : w.heap.size < W5.heap.size := by omega
  have HW5 := Lib.hid hW5; clear hW5
  clear ot3_0_4' ot3_1_4' ot4_0_n kb1_0_4' kb1_1_4' kb1_2_4' kb1_3_4' kb1_4_4' kb1_5_4' kb1_6_4' kb1_7_4'
  refine (toIntS_any A2 c2 l2 _ (Rd.later h2_0 hB5) hs2).mono ?_
  rintro e w5 ⟨A'5, c'5, rfl, ho0_5, hb5⟩
  try simp only [Vg.val]
  have ot3_0_5' := Row2.below ot3_0_5 hb5 (by omega)
  have ot3_1_5' := Row2.below ot3_1_5 hb5 (by omega)
  have ot4_0_5' := Row2.below ot4_0_5 hb5 (by omega)
  have kb1_0_5' := (hb5.cell (p := ⟨w.heap.size, 0, none⟩) (by show w.heap.size < _; omega)).trans kb1_0_5
  have kb1_1_5' := (hb5.cell (p := ⟨w.heap.size, 1, none⟩) (by show w.heap.size < _; omega)).trans kb1_1_5
  have kb1_2_5' := (hb5.cell (p := ⟨w.heap.size, 2, none⟩) (by show w.heap.size < _; omega)).trans kb1_2_5
  have kb1_3_5' := (hb5.cell (p := ⟨w.heap.size, 3, none⟩) (by show w.heap.size < _; omega)).trans kb1_3_5
  have kb1_4_5' := (hb5.cell (p := ⟨w.heap.size, 4, none⟩) (by show w.heap.size < _; omega)).trans kb1_4_5
  have kb1_5_5' := (hb5.cell (p := ⟨w.heap.size, 5, none⟩) (by show w.heap.size < _; omega)).trans kb1_5_5
  have kb1_6_5' := (hb5.cell (p := ⟨w.heap.size, 6, none⟩) (by show w.heap.size < _; omega)).trans kb1_6_5
  have kb1_7_5' := (hb5.cell (p := ⟨w.heap.size, 7, none⟩) (by show w.heap.size < _; omega)).trans kb1_7_5
  have hB5' := hB5.trans (hb5.mono hB5.size)
  have hz5' : W5.heap.size ≤ w5.heap.size := hb5.size
  have hl_b1_5' : w.heap.size < w5.heap.size := by omega
  have ot5_0_n := Row2.born ho0_5
  clear ot3_0_5 ot3_1_5 ot4_0_5 kb1_0_5 kb1_1_5 kb1_2_5 kb1_3_5 kb1_4_5 kb1_5_5 kb1_6_5 kb1_7_5 ho0_5
  go_wp2_with fail
  first | refine name_world ?_ | refine name_wp ?_
  intro W6 hW6
  have hp6 : Below w5.heap.size w5 W6 := by rw [hW6]; repeat' (first | (with_reducible exact Below.refl _ _) | (with_reducible refine Below.alloc ?_ ?_ _) | (with_reducible refine Below.setCell ?_ ?_ _) | (with_reducible refine Below.drew ?_) | (simp; done) | (simp; omega))
  have ot3_0_6 := Row2.below ot3_0_5' hp6 (by omega)
  have ot3_1_6 := Row2.below ot3_1_5' hp6 (by omega)
  have ot4_0_6 := Row2.below ot4_0_5' hp6 (by omega)
  have ot5_0_6 := Row2.below ot5_0_n hp6 (by omega)
  have kb1_0_6 := (hp6.cell (p := ⟨w.heap.size, 0, none⟩) (by show w.heap.size < _; omega)).trans kb1_0_5'
  have kb1_1_6 := (hp6.cell (p := ⟨w.heap.size, 1, none⟩) (by show w.heap.size < _; omega)).trans kb1_1_5'
  have kb1_2_6 := (hp6.cell (p := ⟨w.heap.size, 2, none⟩) (by show w.heap.size < _; omega)).trans kb1_2_5'
  have kb1_3_6 := (hp6.cell (p := ⟨w.heap.size, 3, none⟩) (by show w.heap.size < _; omega)).trans kb1_3_5'
  have kb1_4_6 := (hp6.cell (p := ⟨w.heap.size, 4, none⟩) (by show w.heap.size < _; omega)).trans kb1_4_5'
  have kb1_5_6 := (hp6.cell (p := ⟨w.heap.size, 5, none⟩) (by show w.heap.size < _; omega)).trans kb1_5_5'
  have kb1_6_6 := (hp6.cell (p := ⟨w.heap.size, 6, none⟩) (by show w.heap.size < _; omega)).trans kb1_6_5'
  have kb1_7_6 := (hp6.cell (p := ⟨w.heap.size, 7, none⟩) (by show w.heap.size < _; omega)).trans kb1_7_5'
  have hB6 := hB5'.trans (hp6.mono hB5'.size)
  have hz6 : w5.heap.size ≤ W6.heap.size := hp6.size
  have hl_b1_6 : w.heap.size < W6.heap.size := by omega
  have HW6 := Lib.hid hW6; clear hW6
  clear ot3_0_5' ot3_1_5' ot4_0_5' ot5_0_n kb1_0_5' kb1_1_5' kb1_2_5' kb1_3_5' kb1_4_5' kb1_5_5' kb1_6_5' kb1_7_5'
  refine (post_b (IsReplayS_any A'3 c'3 R'3 d'3 v0 A'4 c'4 l1 A'5 c'5 l2 _ ot3_0_6.rd ot3_1_6.rd ot4_0_6.rd ot5_0_6.rd (by omega))).mono ?_
  rintro e w6 ⟨rfl, hb6⟩
  try simp only [Vg.val]
  have ot3_0_6' := Row2.below ot3_0_6 hb6 (by omega)
  have ot3_1_6' := Row2.below ot3_1_6 hb6 (by omega)
  have ot4_0_6' := Row2.below ot4_0_6 hb6 (by omega)
  have ot5_0_6' := Row2.below ot5_0_6 hb6 (by omega)
  have kb1_0_6' := (hb6.cell (p := ⟨w.heap.size, 0, none⟩) (by show w.heap.size < _; omega)).trans kb1_0_6
  have kb1_1_6' := (hb6.cell (p := ⟨w.heap.size, 1, none⟩) (by show w.heap.size < _; omega)).trans kb1_1_6
  have kb1_2_6' := (hb6.cell (p := ⟨w.heap.size, 2, none⟩) (by show w.heap.size < _; omega)).trans kb1_2_6
  have kb1_3_6' := (hb6.cell (p := ⟨w.heap.size, 3, none⟩) (by show w.heap.size < _; omega)).trans kb1_3_6
  have kb1_4_6' := (hb6.cell (p := ⟨w.heap.size, 4, none⟩) (by show w.heap.size < _; omega)).trans kb1_4_6
  have kb1_5_6' := (hb6.cell (p := ⟨w.heap.size, 5, none⟩) (by show w.heap.size < _; omega)).trans kb1_5_6
  have kb1_6_6' := (hb6.cell (p := ⟨w.heap.size, 6, none⟩) (by show w.heap.size < _; omega)).trans kb1_6_6
  have kb1_7_6' := (hb6.cell (p := ⟨w.heap.size, 7, none⟩) (by show w.heap.size < _; omega)).trans kb1_7_6
  have hB6' := hB6.trans (hb6.mono hB6.size)
  have hz6' : W6.heap.size ≤ w6.heap.size := hb6.size
  have hl_b1_6' : w.heap.size < w6.heap.size := by omega
  clear ot3_0_6 ot3_1_6 ot4_0_6 ot5_0_6 kb1_0_6 kb1_1_6 kb1_2_6 kb1_3_6 kb1_4_6 kb1_5_6 kb1_6_6 kb1_7_6
  rw [← HR0.out]
  go_wp2_with fail
  first | refine name_world ?_ | refine name_wp ?_
  intro W7 hW7
  have hp7 : Below w6.heap.size w6 W7 := by rw [hW7]; repeat' (first | (with_reducible exact Below.refl _ _) | (with_reducible refine Below.alloc ?_ ?_ _) | (with_reducible refine Below.setCell ?_ ?_ _) | (with_reducible refine Below.drew ?_) | (simp; done) | (simp; omega))
  have kb1_0_7 := (hp7.cell (p := ⟨w.heap.size, 0, none⟩) (by show w.heap.size < _; omega)).trans kb1_0_6'
  have kb1_1_7 := (hp7.cell (p := ⟨w.heap.size, 1, none⟩) (by show w.heap.size < _; omega)).trans kb1_1_6'
  have kb1_2_7 := (hp7.cell (p := ⟨w.heap.size, 2, none⟩) (by show w.heap.size < _; omega)).trans kb1_2_6'
  have kb1_3_7 := (hp7.cell (p := ⟨w.heap.size, 3, none⟩) (by show w.heap.size < _; omega)).trans kb1_3_6'
  have kb1_4_7 := (hp7.cell (p := ⟨w.heap.size, 4, none⟩) (by show w.heap.size < _; omega)).trans kb1_4_6'
  have kb1_5_7 := (hp7.cell (p := ⟨w.heap.size, 5, none⟩) (by show w.heap.size < _; omega)).trans kb1_5_6'
  have kb1_6_7 := (hp7.cell (p := ⟨w.heap.size, 6, none⟩) (by show w.heap.size < _; omega)).trans kb1_6_6'
  have kb1_7_7 := (hp7.cell (p := ⟨w.heap.size, 7, none⟩) (by show w.heap.size < _; omega)).trans kb1_7_6'
  have hB7 := hB6'.trans (hp7.mono hB6'.size)
  have hz7 : w6.heap.size ≤ W7.heap.size := hp7.size
  have hl_b1_7 : w.heap.size < W7.heap.size := by omega
  have HW7 := Lib.hid hW7; clear hW7
  clear kb1_0_6' kb1_1_6' kb1_2_6' kb1_3_6' kb1_4_6' kb1_5_6' kb1_6_6' kb1_7_6'
  refine (toVillage_any A0 c0 R0 d0 v0 _ (Rd.later h0_0 hB7) (Rd.later h0_1 hB7) hs0).mono ?_
  rintro e w7 ⟨A'7, c'7, R'7, d'7, rfl, ho0_7, ho1_7, hb7⟩
  try simp only [Vg.val]
  have kb1_0_7' := (hb7.cell (p := ⟨w.heap.size, 0, none⟩) (by show w.heap.size < _; omega)).trans kb1_0_7
  have kb1_1_7' := (hb7.cell (p := ⟨w.heap.size, 1, none⟩) (by show w.heap.size < _; omega)).trans kb1_1_7
  have kb1_2_7' := (hb7.cell (p := ⟨w.heap.size, 2, none⟩) (by show w.heap.size < _; omega)).trans kb1_2_7
  have kb1_3_7' := (hb7.cell (p := ⟨w.heap.size, 3, none⟩) (by show w.heap.size < _; omega)).trans kb1_3_7
  have kb1_4_7' := (hb7.cell (p := ⟨w.heap.size, 4, none⟩) (by show w.heap.size < _; omega)).trans kb1_4_7
  have kb1_5_7' := (hb7.cell (p := ⟨w.heap.size, 5, none⟩) (by show w.heap.size < _; omega)).trans kb1_5_7
  have kb1_6_7' := (hb7.cell (p := ⟨w.heap.size, 6, none⟩) (by show w.heap.size < _; omega)).trans kb1_6_7
  have kb1_7_7' := (hb7.cell (p := ⟨w.heap.size, 7, none⟩) (by show w.heap.size < _; omega)).trans kb1_7_7
  have hB7' := hB7.trans (hb7.mono hB7.size)
  have hz7' : W7.heap.size ≤ w7.heap.size := hb7.size
  have hl_b1_7' : w.heap.size < w7.heap.size := by omega
  have ot7_0_n := Row2.born ho0_7
  have ot7_1_n := Row2.born ho1_7
  clear kb1_0_7 kb1_1_7 kb1_2_7 kb1_3_7 kb1_4_7 kb1_5_7 kb1_6_7 kb1_7_7 ho0_7 ho1_7
  go_wp2_with fail
  first | refine name_world ?_ | refine name_wp ?_
  intro W8 hW8
  have hp8 : Below w7.heap.size w7 W8 := by rw [hW8]; repeat' (first | (with_reducible exact Below.refl _ _) | (with_reducible refine Below.alloc ?_ ?_ _) | (with_reducible refine Below.setCell ?_ ?_ _) | (with_reducible refine Below.drew ?_) | (simp; done) | (simp; omega))
  have kb2_0_8 : W8.cell? ⟨w7.heap.size, 0, none⟩ = some (.int .i64 v0.book.room) := by rw [hW8]; simp [go_sem]
  have kb2_1_8 : W8.cell? ⟨w7.heap.size, 1, none⟩ = some (.int .i64 v0.book.start) := by rw [hW8]; simp [go_sem]
  have kb2_2_8 : W8.cell? ⟨w7.heap.size, 2, none⟩ = some (.slice A'7 v0.book.evs.length c'7) := by rw [hW8]; simp [go_sem]
  have kb2_3_8 : W8.cell? ⟨w7.heap.size, 3, none⟩ = some (.int .i64 v0.book.level) := by rw [hW8]; simp [go_sem]
  have kb2_4_8 : W8.cell? ⟨w7.heap.size, 4, none⟩ = some (.int .i64 v0.book.rained) := by rw [hW8]; simp [go_sem]
  have kb2_5_8 : W8.cell? ⟨w7.heap.size, 5, none⟩ = some (.int .i64 v0.book.drunk) := by rw [hW8]; simp [go_sem]
  have kb2_6_8 : W8.cell? ⟨w7.heap.size, 6, none⟩ = some (.int .i64 v0.book.lost) := by rw [hW8]; simp [go_sem]
  have kb2_7_8 : W8.cell? ⟨w7.heap.size, 7, none⟩ = some (.slice R'7 v0.rights.length d'7) := by rw [hW8]; simp [go_sem]
  have hl_b2 : w7.heap.size < W8.heap.size := by rw [hW8]; first | (simp; done) | (simp; omega)
  have ot7_0_8 := Row2.below ot7_0_n hp8 (by omega)
  have ot7_1_8 := Row2.below ot7_1_n hp8 (by omega)
  have kb1_0_8 := (hp8.cell (p := ⟨w.heap.size, 0, none⟩) (by show w.heap.size < _; omega)).trans kb1_0_7'
  have kb1_1_8 := (hp8.cell (p := ⟨w.heap.size, 1, none⟩) (by show w.heap.size < _; omega)).trans kb1_1_7'
  have kb1_2_8 := (hp8.cell (p := ⟨w.heap.size, 2, none⟩) (by show w.heap.size < _; omega)).trans kb1_2_7'
  have kb1_3_8 := (hp8.cell (p := ⟨w.heap.size, 3, none⟩) (by show w.heap.size < _; omega)).trans kb1_3_7'
  have kb1_4_8 := (hp8.cell (p := ⟨w.heap.size, 4, none⟩) (by show w.heap.size < _; omega)).trans kb1_4_7'
  have kb1_5_8 := (hp8.cell (p := ⟨w.heap.size, 5, none⟩) (by show w.heap.size < _; omega)).trans kb1_5_7'
  have kb1_6_8 := (hp8.cell (p := ⟨w.heap.size, 6, none⟩) (by show w.heap.size < _; omega)).trans kb1_6_7'
  have kb1_7_8 := (hp8.cell (p := ⟨w.heap.size, 7, none⟩) (by show w.heap.size < _; omega)).trans kb1_7_7'
  have hB8 := hB7'.trans (hp8.mono hB7'.size)
  have hz8 : w7.heap.size ≤ W8.heap.size := hp8.size
  have hl_b1_8 : w.heap.size < W8.heap.size := by omega
  have HW8 := Lib.hid hW8; clear hW8
  clear ot7_0_n ot7_1_n kb1_0_7' kb1_1_7' kb1_2_7' kb1_3_7' kb1_4_7' kb1_5_7' kb1_6_7' kb1_7_7'
  refine (toActS_any A1 c1 l1 _ (Rd.later h1_0 hB8) hs1).mono ?_
  rintro e w8 ⟨A'8, c'8, rfl, ho0_8, hb8⟩
  try simp only [Vg.val]
  have ot7_0_8' := Row2.below ot7_0_8 hb8 (by omega)
  have ot7_1_8' := Row2.below ot7_1_8 hb8 (by omega)
  have kb1_0_8' := (hb8.cell (p := ⟨w.heap.size, 0, none⟩) (by show w.heap.size < _; omega)).trans kb1_0_8
  have kb1_1_8' := (hb8.cell (p := ⟨w.heap.size, 1, none⟩) (by show w.heap.size < _; omega)).trans kb1_1_8
  have kb1_2_8' := (hb8.cell (p := ⟨w.heap.size, 2, none⟩) (by show w.heap.size < _; omega)).trans kb1_2_8
  have kb1_3_8' := (hb8.cell (p := ⟨w.heap.size, 3, none⟩) (by show w.heap.size < _; omega)).trans kb1_3_8
  have kb1_4_8' := (hb8.cell (p := ⟨w.heap.size, 4, none⟩) (by show w.heap.size < _; omega)).trans kb1_4_8
  have kb1_5_8' := (hb8.cell (p := ⟨w.heap.size, 5, none⟩) (by show w.heap.size < _; omega)).trans kb1_5_8
  have kb1_6_8' := (hb8.cell (p := ⟨w.heap.size, 6, none⟩) (by show w.heap.size < _; omega)).trans kb1_6_8
  have kb1_7_8' := (hb8.cell (p := ⟨w.heap.size, 7, none⟩) (by show w.heap.size < _; omega)).trans kb1_7_8
  have kb2_0_8' := (hb8.cell (p := ⟨w7.heap.size, 0, none⟩) (by show w7.heap.size < _; omega)).trans kb2_0_8
  have kb2_1_8' := (hb8.cell (p := ⟨w7.heap.size, 1, none⟩) (by show w7.heap.size < _; omega)).trans kb2_1_8
  have kb2_2_8' := (hb8.cell (p := ⟨w7.heap.size, 2, none⟩) (by show w7.heap.size < _; omega)).trans kb2_2_8
  have kb2_3_8' := (hb8.cell (p := ⟨w7.heap.size, 3, none⟩) (by show w7.heap.size < _; omega)).trans kb2_3_8
  have kb2_4_8' := (hb8.cell (p := ⟨w7.heap.size, 4, none⟩) (by show w7.heap.size < _; omega)).trans kb2_4_8
  have kb2_5_8' := (hb8.cell (p := ⟨w7.heap.size, 5, none⟩) (by show w7.heap.size < _; omega)).trans kb2_5_8
  have kb2_6_8' := (hb8.cell (p := ⟨w7.heap.size, 6, none⟩) (by show w7.heap.size < _; omega)).trans kb2_6_8
  have kb2_7_8' := (hb8.cell (p := ⟨w7.heap.size, 7, none⟩) (by show w7.heap.size < _; omega)).trans kb2_7_8
  have hB8' := hB8.trans (hb8.mono hB8.size)
  have hz8' : W8.heap.size ≤ w8.heap.size := hb8.size
  have hl_b1_8' : w.heap.size < w8.heap.size := by omega
  have hl_b2_8' : w7.heap.size < w8.heap.size := by omega
  have ot8_0_n := Row2.born ho0_8
  clear ot7_0_8 ot7_1_8 kb1_0_8 kb1_1_8 kb1_2_8 kb1_3_8 kb1_4_8 kb1_5_8 kb1_6_8 kb1_7_8 kb2_0_8 kb2_1_8 kb2_2_8 kb2_3_8 kb2_4_8 kb2_5_8 kb2_6_8 kb2_7_8 ho0_8
  go_wp2_with fail
  first | refine name_world ?_ | refine name_wp ?_
  intro W9 hW9
  have hp9 : Below w8.heap.size w8 W9 := by rw [hW9]; repeat' (first | (with_reducible exact Below.refl _ _) | (with_reducible refine Below.alloc ?_ ?_ _) | (with_reducible refine Below.setCell ?_ ?_ _) | (with_reducible refine Below.drew ?_) | (simp; done) | (simp; omega))
  have ot7_0_9 := Row2.below ot7_0_8' hp9 (by omega)
  have ot7_1_9 := Row2.below ot7_1_8' hp9 (by omega)
  have ot8_0_9 := Row2.below ot8_0_n hp9 (by omega)
  have kb1_0_9 := (hp9.cell (p := ⟨w.heap.size, 0, none⟩) (by show w.heap.size < _; omega)).trans kb1_0_8'
  have kb1_1_9 := (hp9.cell (p := ⟨w.heap.size, 1, none⟩) (by show w.heap.size < _; omega)).trans kb1_1_8'
  have kb1_2_9 := (hp9.cell (p := ⟨w.heap.size, 2, none⟩) (by show w.heap.size < _; omega)).trans kb1_2_8'
  have kb1_3_9 := (hp9.cell (p := ⟨w.heap.size, 3, none⟩) (by show w.heap.size < _; omega)).trans kb1_3_8'
  have kb1_4_9 := (hp9.cell (p := ⟨w.heap.size, 4, none⟩) (by show w.heap.size < _; omega)).trans kb1_4_8'
  have kb1_5_9 := (hp9.cell (p := ⟨w.heap.size, 5, none⟩) (by show w.heap.size < _; omega)).trans kb1_5_8'
  have kb1_6_9 := (hp9.cell (p := ⟨w.heap.size, 6, none⟩) (by show w.heap.size < _; omega)).trans kb1_6_8'
  have kb1_7_9 := (hp9.cell (p := ⟨w.heap.size, 7, none⟩) (by show w.heap.size < _; omega)).trans kb1_7_8'
  have kb2_0_9 := (hp9.cell (p := ⟨w7.heap.size, 0, none⟩) (by show w7.heap.size < _; omega)).trans kb2_0_8'
  have kb2_1_9 := (hp9.cell (p := ⟨w7.heap.size, 1, none⟩) (by show w7.heap.size < _; omega)).trans kb2_1_8'
  have kb2_2_9 := (hp9.cell (p := ⟨w7.heap.size, 2, none⟩) (by show w7.heap.size < _; omega)).trans kb2_2_8'
  have kb2_3_9 := (hp9.cell (p := ⟨w7.heap.size, 3, none⟩) (by show w7.heap.size < _; omega)).trans kb2_3_8'
  have kb2_4_9 := (hp9.cell (p := ⟨w7.heap.size, 4, none⟩) (by show w7.heap.size < _; omega)).trans kb2_4_8'
  have kb2_5_9 := (hp9.cell (p := ⟨w7.heap.size, 5, none⟩) (by show w7.heap.size < _; omega)).trans kb2_5_8'
  have kb2_6_9 := (hp9.cell (p := ⟨w7.heap.size, 6, none⟩) (by show w7.heap.size < _; omega)).trans kb2_6_8'
  have kb2_7_9 := (hp9.cell (p := ⟨w7.heap.size, 7, none⟩) (by show w7.heap.size < _; omega)).trans kb2_7_8'
  have hB9 := hB8'.trans (hp9.mono hB8'.size)
  have hz9 : w8.heap.size ≤ W9.heap.size := hp9.size
  have hl_b1_9 : w.heap.size < W9.heap.size := by omega
  have hl_b2_9 : w7.heap.size < W9.heap.size := by omega
  have HW9 := Lib.hid hW9; clear hW9
  clear ot7_0_8' ot7_1_8' ot8_0_n kb1_0_8' kb1_1_8' kb1_2_8' kb1_3_8' kb1_4_8' kb1_5_8' kb1_6_8' kb1_7_8' kb2_0_8' kb2_1_8' kb2_2_8' kb2_3_8' kb2_4_8' kb2_5_8' kb2_6_8' kb2_7_8'
  refine (toIntS_any A2 c2 l2 _ (Rd.later h2_0 hB9) hs2).mono ?_
  rintro e w9 ⟨A'9, c'9, rfl, ho0_9, hb9⟩
  try simp only [Vg.val]
  have ot7_0_9' := Row2.below ot7_0_9 hb9 (by omega)
  have ot7_1_9' := Row2.below ot7_1_9 hb9 (by omega)
  have ot8_0_9' := Row2.below ot8_0_9 hb9 (by omega)
  have kb1_0_9' := (hb9.cell (p := ⟨w.heap.size, 0, none⟩) (by show w.heap.size < _; omega)).trans kb1_0_9
  have kb1_1_9' := (hb9.cell (p := ⟨w.heap.size, 1, none⟩) (by show w.heap.size < _; omega)).trans kb1_1_9
  have kb1_2_9' := (hb9.cell (p := ⟨w.heap.size, 2, none⟩) (by show w.heap.size < _; omega)).trans kb1_2_9
  have kb1_3_9' := (hb9.cell (p := ⟨w.heap.size, 3, none⟩) (by show w.heap.size < _; omega)).trans kb1_3_9
  have kb1_4_9' := (hb9.cell (p := ⟨w.heap.size, 4, none⟩) (by show w.heap.size < _; omega)).trans kb1_4_9
  have kb1_5_9' := (hb9.cell (p := ⟨w.heap.size, 5, none⟩) (by show w.heap.size < _; omega)).trans kb1_5_9
  have kb1_6_9' := (hb9.cell (p := ⟨w.heap.size, 6, none⟩) (by show w.heap.size < _; omega)).trans kb1_6_9
  have kb1_7_9' := (hb9.cell (p := ⟨w.heap.size, 7, none⟩) (by show w.heap.size < _; omega)).trans kb1_7_9
  have kb2_0_9' := (hb9.cell (p := ⟨w7.heap.size, 0, none⟩) (by show w7.heap.size < _; omega)).trans kb2_0_9
  have kb2_1_9' := (hb9.cell (p := ⟨w7.heap.size, 1, none⟩) (by show w7.heap.size < _; omega)).trans kb2_1_9
  have kb2_2_9' := (hb9.cell (p := ⟨w7.heap.size, 2, none⟩) (by show w7.heap.size < _; omega)).trans kb2_2_9
  have kb2_3_9' := (hb9.cell (p := ⟨w7.heap.size, 3, none⟩) (by show w7.heap.size < _; omega)).trans kb2_3_9
  have kb2_4_9' := (hb9.cell (p := ⟨w7.heap.size, 4, none⟩) (by show w7.heap.size < _; omega)).trans kb2_4_9
  have kb2_5_9' := (hb9.cell (p := ⟨w7.heap.size, 5, none⟩) (by show w7.heap.size < _; omega)).trans kb2_5_9
  have kb2_6_9' := (hb9.cell (p := ⟨w7.heap.size, 6, none⟩) (by show w7.heap.size < _; omega)).trans kb2_6_9
  have kb2_7_9' := (hb9.cell (p := ⟨w7.heap.size, 7, none⟩) (by show w7.heap.size < _; omega)).trans kb2_7_9
  have hB9' := hB9.trans (hb9.mono hB9.size)
  have hz9' : W9.heap.size ≤ w9.heap.size := hb9.size
  have hl_b1_9' : w.heap.size < w9.heap.size := by omega
  have hl_b2_9' : w7.heap.size < w9.heap.size := by omega
  have ot9_0_n := Row2.born ho0_9
  clear ot7_0_9 ot7_1_9 ot8_0_9 kb1_0_9 kb1_1_9 kb1_2_9 kb1_3_9 kb1_4_9 kb1_5_9 kb1_6_9 kb1_7_9 kb2_0_9 kb2_1_9 kb2_2_9 kb2_3_9 kb2_4_9 kb2_5_9 kb2_6_9 kb2_7_9 ho0_9
  go_wp2_with fail
  first | refine name_world ?_ | refine name_wp ?_
  intro W10 hW10
  have hp10 : Below w9.heap.size w9 W10 := by rw [hW10]; repeat' (first | (with_reducible exact Below.refl _ _) | (with_reducible refine Below.alloc ?_ ?_ _) | (with_reducible refine Below.setCell ?_ ?_ _) | (with_reducible refine Below.drew ?_) | (simp; done) | (simp; omega))
  have ot7_0_10 := Row2.below ot7_0_9' hp10 (by omega)
  have ot7_1_10 := Row2.below ot7_1_9' hp10 (by omega)
  have ot8_0_10 := Row2.below ot8_0_9' hp10 (by omega)
  have ot9_0_10 := Row2.below ot9_0_n hp10 (by omega)
  have kb1_0_10 := (hp10.cell (p := ⟨w.heap.size, 0, none⟩) (by show w.heap.size < _; omega)).trans kb1_0_9'
  have kb1_1_10 := (hp10.cell (p := ⟨w.heap.size, 1, none⟩) (by show w.heap.size < _; omega)).trans kb1_1_9'
  have kb1_2_10 := (hp10.cell (p := ⟨w.heap.size, 2, none⟩) (by show w.heap.size < _; omega)).trans kb1_2_9'
  have kb1_3_10 := (hp10.cell (p := ⟨w.heap.size, 3, none⟩) (by show w.heap.size < _; omega)).trans kb1_3_9'
  have kb1_4_10 := (hp10.cell (p := ⟨w.heap.size, 4, none⟩) (by show w.heap.size < _; omega)).trans kb1_4_9'
  have kb1_5_10 := (hp10.cell (p := ⟨w.heap.size, 5, none⟩) (by show w.heap.size < _; omega)).trans kb1_5_9'
  have kb1_6_10 := (hp10.cell (p := ⟨w.heap.size, 6, none⟩) (by show w.heap.size < _; omega)).trans kb1_6_9'
  have kb1_7_10 := (hp10.cell (p := ⟨w.heap.size, 7, none⟩) (by show w.heap.size < _; omega)).trans kb1_7_9'
  have kb2_0_10 := (hp10.cell (p := ⟨w7.heap.size, 0, none⟩) (by show w7.heap.size < _; omega)).trans kb2_0_9'
  have kb2_1_10 := (hp10.cell (p := ⟨w7.heap.size, 1, none⟩) (by show w7.heap.size < _; omega)).trans kb2_1_9'
  have kb2_2_10 := (hp10.cell (p := ⟨w7.heap.size, 2, none⟩) (by show w7.heap.size < _; omega)).trans kb2_2_9'
  have kb2_3_10 := (hp10.cell (p := ⟨w7.heap.size, 3, none⟩) (by show w7.heap.size < _; omega)).trans kb2_3_9'
  have kb2_4_10 := (hp10.cell (p := ⟨w7.heap.size, 4, none⟩) (by show w7.heap.size < _; omega)).trans kb2_4_9'
  have kb2_5_10 := (hp10.cell (p := ⟨w7.heap.size, 5, none⟩) (by show w7.heap.size < _; omega)).trans kb2_5_9'
  have kb2_6_10 := (hp10.cell (p := ⟨w7.heap.size, 6, none⟩) (by show w7.heap.size < _; omega)).trans kb2_6_9'
  have kb2_7_10 := (hp10.cell (p := ⟨w7.heap.size, 7, none⟩) (by show w7.heap.size < _; omega)).trans kb2_7_9'
  have hB10 := hB9'.trans (hp10.mono hB9'.size)
  have hz10 : w9.heap.size ≤ W10.heap.size := hp10.size
  have hl_b1_10 : w.heap.size < W10.heap.size := by omega
  have hl_b2_10 : w7.heap.size < W10.heap.size := by omega
  have HW10 := Lib.hid hW10; clear hW10
  clear ot7_0_9' ot7_1_9' ot8_0_9' ot9_0_n kb1_0_9' kb1_1_9' kb1_2_9' kb1_3_9' kb1_4_9' kb1_5_9' kb1_6_9' kb1_7_9' kb2_0_9' kb2_1_9' kb2_2_9' kb2_3_9' kb2_4_9' kb2_5_9' kb2_6_9' kb2_7_9'
  refine (post_b (IsReplay_any A'7 c'7 R'7 d'7 v0 A'8 c'8 l1 A'9 c'9 l2 _ ot7_0_10.rd ot7_1_10.rd ot8_0_10.rd ot9_0_10.rd (by omega))).mono ?_
  rintro e w10 ⟨rfl, hb10⟩
  try simp only [Vg.val]
  have ot7_0_10' := Row2.below ot7_0_10 hb10 (by omega)
  have ot7_1_10' := Row2.below ot7_1_10 hb10 (by omega)
  have ot8_0_10' := Row2.below ot8_0_10 hb10 (by omega)
  have ot9_0_10' := Row2.below ot9_0_10 hb10 (by omega)
  have kb1_0_10' := (hb10.cell (p := ⟨w.heap.size, 0, none⟩) (by show w.heap.size < _; omega)).trans kb1_0_10
  have kb1_1_10' := (hb10.cell (p := ⟨w.heap.size, 1, none⟩) (by show w.heap.size < _; omega)).trans kb1_1_10
  have kb1_2_10' := (hb10.cell (p := ⟨w.heap.size, 2, none⟩) (by show w.heap.size < _; omega)).trans kb1_2_10
  have kb1_3_10' := (hb10.cell (p := ⟨w.heap.size, 3, none⟩) (by show w.heap.size < _; omega)).trans kb1_3_10
  have kb1_4_10' := (hb10.cell (p := ⟨w.heap.size, 4, none⟩) (by show w.heap.size < _; omega)).trans kb1_4_10
  have kb1_5_10' := (hb10.cell (p := ⟨w.heap.size, 5, none⟩) (by show w.heap.size < _; omega)).trans kb1_5_10
  have kb1_6_10' := (hb10.cell (p := ⟨w.heap.size, 6, none⟩) (by show w.heap.size < _; omega)).trans kb1_6_10
  have kb1_7_10' := (hb10.cell (p := ⟨w.heap.size, 7, none⟩) (by show w.heap.size < _; omega)).trans kb1_7_10
  have kb2_0_10' := (hb10.cell (p := ⟨w7.heap.size, 0, none⟩) (by show w7.heap.size < _; omega)).trans kb2_0_10
  have kb2_1_10' := (hb10.cell (p := ⟨w7.heap.size, 1, none⟩) (by show w7.heap.size < _; omega)).trans kb2_1_10
  have kb2_2_10' := (hb10.cell (p := ⟨w7.heap.size, 2, none⟩) (by show w7.heap.size < _; omega)).trans kb2_2_10
  have kb2_3_10' := (hb10.cell (p := ⟨w7.heap.size, 3, none⟩) (by show w7.heap.size < _; omega)).trans kb2_3_10
  have kb2_4_10' := (hb10.cell (p := ⟨w7.heap.size, 4, none⟩) (by show w7.heap.size < _; omega)).trans kb2_4_10
  have kb2_5_10' := (hb10.cell (p := ⟨w7.heap.size, 5, none⟩) (by show w7.heap.size < _; omega)).trans kb2_5_10
  have kb2_6_10' := (hb10.cell (p := ⟨w7.heap.size, 6, none⟩) (by show w7.heap.size < _; omega)).trans kb2_6_10
  have kb2_7_10' := (hb10.cell (p := ⟨w7.heap.size, 7, none⟩) (by show w7.heap.size < _; omega)).trans kb2_7_10
  have hB10' := hB10.trans (hb10.mono hB10.size)
  have hz10' : W10.heap.size ≤ w10.heap.size := hb10.size
  have hl_b1_10' : w.heap.size < w10.heap.size := by omega
  have hl_b2_10' : w7.heap.size < w10.heap.size := by omega
  clear ot7_0_10 ot7_1_10 ot8_0_10 ot9_0_10 kb1_0_10 kb1_1_10 kb1_2_10 kb1_3_10 kb1_4_10 kb1_5_10 kb1_6_10 kb1_7_10 kb2_0_10 kb2_1_10 kb2_2_10 kb2_3_10 kb2_4_10 kb2_5_10 kb2_6_10 kb2_7_10
  rw [← HR0.out]
  go_wp2_with fail
  go_region_held3 (fun w' => w'.cell? ⟨w7.heap.size, 0, none⟩ = some (.int .i64 v0.book.room) ∧ w'.cell? ⟨w7.heap.size, 1, none⟩ = some (.int .i64 v0.book.start) ∧ w'.cell? ⟨w7.heap.size, 2, none⟩ = some (.slice A'7 v0.book.evs.length c'7) ∧ w'.cell? ⟨w7.heap.size, 3, none⟩ = some (.int .i64 v0.book.level) ∧ w'.cell? ⟨w7.heap.size, 4, none⟩ = some (.int .i64 v0.book.rained) ∧ w'.cell? ⟨w7.heap.size, 5, none⟩ = some (.int .i64 v0.book.drunk) ∧ w'.cell? ⟨w7.heap.size, 6, none⟩ = some (.int .i64 v0.book.lost) ∧ w'.cell? ⟨w7.heap.size, 7, none⟩ = some (.slice R'7 v0.rights.length d'7) ∧ w'.cell? ⟨w.heap.size, 0, none⟩ = some (.int .i64 v0.book.room) ∧ w'.cell? ⟨w.heap.size, 1, none⟩ = some (.int .i64 v0.book.start) ∧ w'.cell? ⟨w.heap.size, 2, none⟩ = some (.slice A0 v0.book.evs.length c0) ∧ w'.cell? ⟨w.heap.size, 3, none⟩ = some (.int .i64 v0.book.level) ∧ w'.cell? ⟨w.heap.size, 4, none⟩ = some (.int .i64 v0.book.rained) ∧ w'.cell? ⟨w.heap.size, 5, none⟩ = some (.int .i64 v0.book.drunk) ∧ w'.cell? ⟨w.heap.size, 6, none⟩ = some (.int .i64 v0.book.lost) ∧ w'.cell? ⟨w.heap.size, 7, none⟩ = some (.slice R0 v0.rights.length d0)) (first | (with_reducible exact ⟨sa0_11, sa1_11, sa2_11, sa3_11, sa4_11, sa5_11, sa6_11, sa7_11, sa8_11, sa9_11, sa10_11, sa11_11, sa12_11, sa13_11, sa14_11, sa15_11⟩) | (with_reducible exact ⟨sb0_12, sb1_12, sb2_12, sb3_12, sb4_12, sb5_12, sb6_12, sb7_12, sb8_12, sb9_12, sb10_12, sb11_12, sb12_12, sb13_12, sb14_12, sb15_12⟩) | exact ⟨kb2_0_10', kb2_1_10', kb2_2_10', kb2_3_10', kb2_4_10', kb2_5_10', kb2_6_10', kb2_7_10', kb1_0_10', kb1_1_10', kb1_2_10', kb1_3_10', kb1_4_10', kb1_5_10', kb1_6_10', kb1_7_10'⟩)
    (first | (go_at_call 8; refine (toVillage_any A0 c0 R0 d0 v0 _ (Rd.later h0_0 hB10'.drew) (Rd.later h0_1 hB10'.drew) hs0).mono ?_; rintro e w11 ⟨A'11, c'11, R'11, d'11, rfl, ho0_11, ho1_11, hb11⟩; try simp only [Vg.val]; have sa0_11 := (hb11.cell (p := ⟨w7.heap.size, 0, none⟩) (by show w7.heap.size < w10.heap.size; omega)).trans kb2_0_10'; have sa1_11 := (hb11.cell (p := ⟨w7.heap.size, 1, none⟩) (by show w7.heap.size < w10.heap.size; omega)).trans kb2_1_10'; have sa2_11 := (hb11.cell (p := ⟨w7.heap.size, 2, none⟩) (by show w7.heap.size < w10.heap.size; omega)).trans kb2_2_10'; have sa3_11 := (hb11.cell (p := ⟨w7.heap.size, 3, none⟩) (by show w7.heap.size < w10.heap.size; omega)).trans kb2_3_10'; have sa4_11 := (hb11.cell (p := ⟨w7.heap.size, 4, none⟩) (by show w7.heap.size < w10.heap.size; omega)).trans kb2_4_10'; have sa5_11 := (hb11.cell (p := ⟨w7.heap.size, 5, none⟩) (by show w7.heap.size < w10.heap.size; omega)).trans kb2_5_10'; have sa6_11 := (hb11.cell (p := ⟨w7.heap.size, 6, none⟩) (by show w7.heap.size < w10.heap.size; omega)).trans kb2_6_10'; have sa7_11 := (hb11.cell (p := ⟨w7.heap.size, 7, none⟩) (by show w7.heap.size < w10.heap.size; omega)).trans kb2_7_10'; have sa8_11 := (hb11.cell (p := ⟨w.heap.size, 0, none⟩) (by show w.heap.size < w10.heap.size; omega)).trans kb1_0_10'; have sa9_11 := (hb11.cell (p := ⟨w.heap.size, 1, none⟩) (by show w.heap.size < w10.heap.size; omega)).trans kb1_1_10'; have sa10_11 := (hb11.cell (p := ⟨w.heap.size, 2, none⟩) (by show w.heap.size < w10.heap.size; omega)).trans kb1_2_10'; have sa11_11 := (hb11.cell (p := ⟨w.heap.size, 3, none⟩) (by show w.heap.size < w10.heap.size; omega)).trans kb1_3_10'; have sa12_11 := (hb11.cell (p := ⟨w.heap.size, 4, none⟩) (by show w.heap.size < w10.heap.size; omega)).trans kb1_4_10'; have sa13_11 := (hb11.cell (p := ⟨w.heap.size, 5, none⟩) (by show w.heap.size < w10.heap.size; omega)).trans kb1_5_10'; have sa14_11 := (hb11.cell (p := ⟨w.heap.size, 6, none⟩) (by show w.heap.size < w10.heap.size; omega)).trans kb1_6_10'; have sa15_11 := (hb11.cell (p := ⟨w.heap.size, 7, none⟩) (by show w.heap.size < w10.heap.size; omega)).trans kb1_7_10') | (go_at_call 11; refine (eqVillage_same A'7 c'7 R'7 d'7 A'11 c'11 R'11 d'11 (v0) _ (Row2.below (Row2.drew ot7_0_10') hb11 (by show _ ≤ w10.heap.size; omega)).rd (Row2.below (Row2.drew ot7_1_10') hb11 (by show _ ≤ w10.heap.size; omega)).rd (Row2.born ho0_11).rd (Row2.born ho1_11).rd).mono ?_; rintro e w12 ⟨rfl, hb12⟩; have sb0_12 := (hb12.cell (p := ⟨w7.heap.size, 0, none⟩) (by show w7.heap.size < _; have := hb11.size; have : w10.heap.size ≤ w11.heap.size := this; omega)).trans sa0_11; have sb1_12 := (hb12.cell (p := ⟨w7.heap.size, 1, none⟩) (by show w7.heap.size < _; have := hb11.size; have : w10.heap.size ≤ w11.heap.size := this; omega)).trans sa1_11; have sb2_12 := (hb12.cell (p := ⟨w7.heap.size, 2, none⟩) (by show w7.heap.size < _; have := hb11.size; have : w10.heap.size ≤ w11.heap.size := this; omega)).trans sa2_11; have sb3_12 := (hb12.cell (p := ⟨w7.heap.size, 3, none⟩) (by show w7.heap.size < _; have := hb11.size; have : w10.heap.size ≤ w11.heap.size := this; omega)).trans sa3_11; have sb4_12 := (hb12.cell (p := ⟨w7.heap.size, 4, none⟩) (by show w7.heap.size < _; have := hb11.size; have : w10.heap.size ≤ w11.heap.size := this; omega)).trans sa4_11; have sb5_12 := (hb12.cell (p := ⟨w7.heap.size, 5, none⟩) (by show w7.heap.size < _; have := hb11.size; have : w10.heap.size ≤ w11.heap.size := this; omega)).trans sa5_11; have sb6_12 := (hb12.cell (p := ⟨w7.heap.size, 6, none⟩) (by show w7.heap.size < _; have := hb11.size; have : w10.heap.size ≤ w11.heap.size := this; omega)).trans sa6_11; have sb7_12 := (hb12.cell (p := ⟨w7.heap.size, 7, none⟩) (by show w7.heap.size < _; have := hb11.size; have : w10.heap.size ≤ w11.heap.size := this; omega)).trans sa7_11; have sb8_12 := (hb12.cell (p := ⟨w.heap.size, 0, none⟩) (by show w.heap.size < _; have := hb11.size; have : w10.heap.size ≤ w11.heap.size := this; omega)).trans sa8_11; have sb9_12 := (hb12.cell (p := ⟨w.heap.size, 1, none⟩) (by show w.heap.size < _; have := hb11.size; have : w10.heap.size ≤ w11.heap.size := this; omega)).trans sa9_11; have sb10_12 := (hb12.cell (p := ⟨w.heap.size, 2, none⟩) (by show w.heap.size < _; have := hb11.size; have : w10.heap.size ≤ w11.heap.size := this; omega)).trans sa10_11; have sb11_12 := (hb12.cell (p := ⟨w.heap.size, 3, none⟩) (by show w.heap.size < _; have := hb11.size; have : w10.heap.size ≤ w11.heap.size := this; omega)).trans sa11_11; have sb12_12 := (hb12.cell (p := ⟨w.heap.size, 4, none⟩) (by show w.heap.size < _; have := hb11.size; have : w10.heap.size ≤ w11.heap.size := this; omega)).trans sa12_11; have sb13_12 := (hb12.cell (p := ⟨w.heap.size, 5, none⟩) (by show w.heap.size < _; have := hb11.size; have : w10.heap.size ≤ w11.heap.size := this; omega)).trans sa13_11; have sb14_12 := (hb12.cell (p := ⟨w.heap.size, 6, none⟩) (by show w.heap.size < _; have := hb11.size; have : w10.heap.size ≤ w11.heap.size := this; omega)).trans sa14_11; have sb15_12 := (hb12.cell (p := ⟨w.heap.size, 7, none⟩) (by show w.heap.size < _; have := hb11.size; have : w10.heap.size ≤ w11.heap.size := this; omega)).trans sa15_11))
  have hb11d := below_of_drew hb11
  have ot7_0_11' := Row2.below ot7_0_10' hb11d (by omega)
  have ot7_1_11' := Row2.below ot7_1_10' hb11d (by omega)
  have ot8_0_11' := Row2.below ot8_0_10' hb11d (by omega)
  have ot9_0_11' := Row2.below ot9_0_10' hb11d (by omega)
  have kb1_0_11' := (hb11d.cell (p := ⟨w.heap.size, 0, none⟩) (by show w.heap.size < _; omega)).trans kb1_0_10'
  have kb1_1_11' := (hb11d.cell (p := ⟨w.heap.size, 1, none⟩) (by show w.heap.size < _; omega)).trans kb1_1_10'
  have kb1_2_11' := (hb11d.cell (p := ⟨w.heap.size, 2, none⟩) (by show w.heap.size < _; omega)).trans kb1_2_10'
  have kb1_3_11' := (hb11d.cell (p := ⟨w.heap.size, 3, none⟩) (by show w.heap.size < _; omega)).trans kb1_3_10'
  have kb1_4_11' := (hb11d.cell (p := ⟨w.heap.size, 4, none⟩) (by show w.heap.size < _; omega)).trans kb1_4_10'
  have kb1_5_11' := (hb11d.cell (p := ⟨w.heap.size, 5, none⟩) (by show w.heap.size < _; omega)).trans kb1_5_10'
  have kb1_6_11' := (hb11d.cell (p := ⟨w.heap.size, 6, none⟩) (by show w.heap.size < _; omega)).trans kb1_6_10'
  have kb1_7_11' := (hb11d.cell (p := ⟨w.heap.size, 7, none⟩) (by show w.heap.size < _; omega)).trans kb1_7_10'
  have kb2_0_11' := (hb11d.cell (p := ⟨w7.heap.size, 0, none⟩) (by show w7.heap.size < _; omega)).trans kb2_0_10'
  have kb2_1_11' := (hb11d.cell (p := ⟨w7.heap.size, 1, none⟩) (by show w7.heap.size < _; omega)).trans kb2_1_10'
  have kb2_2_11' := (hb11d.cell (p := ⟨w7.heap.size, 2, none⟩) (by show w7.heap.size < _; omega)).trans kb2_2_10'
  have kb2_3_11' := (hb11d.cell (p := ⟨w7.heap.size, 3, none⟩) (by show w7.heap.size < _; omega)).trans kb2_3_10'
  have kb2_4_11' := (hb11d.cell (p := ⟨w7.heap.size, 4, none⟩) (by show w7.heap.size < _; omega)).trans kb2_4_10'
  have kb2_5_11' := (hb11d.cell (p := ⟨w7.heap.size, 5, none⟩) (by show w7.heap.size < _; omega)).trans kb2_5_10'
  have kb2_6_11' := (hb11d.cell (p := ⟨w7.heap.size, 6, none⟩) (by show w7.heap.size < _; omega)).trans kb2_6_10'
  have kb2_7_11' := (hb11d.cell (p := ⟨w7.heap.size, 7, none⟩) (by show w7.heap.size < _; omega)).trans kb2_7_10'
  have hB11' := hB10'.trans (hb11d.mono hB10'.size)
  have hz11' : w10.heap.size ≤ w11.heap.size := hb11d.size
  have hl_b1_11' : w.heap.size < w11.heap.size := by omega
  have hl_b2_11' : w7.heap.size < w11.heap.size := by omega
  have ot7_0_12' := Row2.below ot7_0_11' hb12 (by omega)
  have ot7_1_12' := Row2.below ot7_1_11' hb12 (by omega)
  have ot8_0_12' := Row2.below ot8_0_11' hb12 (by omega)
  have ot9_0_12' := Row2.below ot9_0_11' hb12 (by omega)
  have kb1_0_12' := (hb12.cell (p := ⟨w.heap.size, 0, none⟩) (by show w.heap.size < _; omega)).trans kb1_0_11'
  have kb1_1_12' := (hb12.cell (p := ⟨w.heap.size, 1, none⟩) (by show w.heap.size < _; omega)).trans kb1_1_11'
  have kb1_2_12' := (hb12.cell (p := ⟨w.heap.size, 2, none⟩) (by show w.heap.size < _; omega)).trans kb1_2_11'
  have kb1_3_12' := (hb12.cell (p := ⟨w.heap.size, 3, none⟩) (by show w.heap.size < _; omega)).trans kb1_3_11'
  have kb1_4_12' := (hb12.cell (p := ⟨w.heap.size, 4, none⟩) (by show w.heap.size < _; omega)).trans kb1_4_11'
  have kb1_5_12' := (hb12.cell (p := ⟨w.heap.size, 5, none⟩) (by show w.heap.size < _; omega)).trans kb1_5_11'
  have kb1_6_12' := (hb12.cell (p := ⟨w.heap.size, 6, none⟩) (by show w.heap.size < _; omega)).trans kb1_6_11'
  have kb1_7_12' := (hb12.cell (p := ⟨w.heap.size, 7, none⟩) (by show w.heap.size < _; omega)).trans kb1_7_11'
  have kb2_0_12' := (hb12.cell (p := ⟨w7.heap.size, 0, none⟩) (by show w7.heap.size < _; omega)).trans kb2_0_11'
  have kb2_1_12' := (hb12.cell (p := ⟨w7.heap.size, 1, none⟩) (by show w7.heap.size < _; omega)).trans kb2_1_11'
  have kb2_2_12' := (hb12.cell (p := ⟨w7.heap.size, 2, none⟩) (by show w7.heap.size < _; omega)).trans kb2_2_11'
  have kb2_3_12' := (hb12.cell (p := ⟨w7.heap.size, 3, none⟩) (by show w7.heap.size < _; omega)).trans kb2_3_11'
  have kb2_4_12' := (hb12.cell (p := ⟨w7.heap.size, 4, none⟩) (by show w7.heap.size < _; omega)).trans kb2_4_11'
  have kb2_5_12' := (hb12.cell (p := ⟨w7.heap.size, 5, none⟩) (by show w7.heap.size < _; omega)).trans kb2_5_11'
  have kb2_6_12' := (hb12.cell (p := ⟨w7.heap.size, 6, none⟩) (by show w7.heap.size < _; omega)).trans kb2_6_11'
  have kb2_7_12' := (hb12.cell (p := ⟨w7.heap.size, 7, none⟩) (by show w7.heap.size < _; omega)).trans kb2_7_11'
  have hB12' := hB11'.trans (hb12.mono hB11'.size)
  have hz12' : w11.heap.size ≤ w12.heap.size := hb12.size
  have hl_b1_12' : w.heap.size < w12.heap.size := by omega
  have hl_b2_12' : w7.heap.size < w12.heap.size := by omega
  clear sa0_11 sb0_12 sa1_11 sb1_12 sa2_11 sb2_12 sa3_11 sb3_12 sa4_11 sb4_12 sa5_11 sb5_12 sa6_11 sb6_12 sa7_11 sb7_12 sa8_11 sb8_12 sa9_11 sb9_12 sa10_11 sb10_12 sa11_11 sb11_12 sa12_11 sb12_12 sa13_11 sb13_12 sa14_11 sb14_12 sa15_11 sb15_12 ot7_0_10' ot7_1_10' ot8_0_10' ot9_0_10' kb1_0_10' kb1_1_10' kb1_2_10' kb1_3_10' kb1_4_10' kb1_5_10' kb1_6_10' kb1_7_10' kb2_0_10' kb2_1_10' kb2_2_10' kb2_3_10' kb2_4_10' kb2_5_10' kb2_6_10' kb2_7_10' ot7_0_11' ot7_1_11' ot8_0_11' ot9_0_11' kb1_0_11' kb1_1_11' kb1_2_11' kb1_3_11' kb1_4_11' kb1_5_11' kb1_6_11' kb1_7_11' kb2_0_11' kb2_1_11' kb2_2_11' kb2_3_11' kb2_4_11' kb2_5_11' kb2_6_11' kb2_7_11' ho0_11 ho1_11
  go_wp2_with fail
  first | refine name_world ?_ | refine name_wp ?_
  intro W13 hW13
  have hp13 : Below w12.heap.size w12 W13 := by rw [hW13]; repeat' (first | (with_reducible exact Below.refl _ _) | (with_reducible refine Below.alloc ?_ ?_ _) | (with_reducible refine Below.setCell ?_ ?_ _) | (with_reducible refine Below.drew ?_) | (simp; done) | (simp; omega))
  have ot7_0_13 := Row2.below ot7_0_12' hp13 (by omega)
  have ot7_1_13 := Row2.below ot7_1_12' hp13 (by omega)
  have ot8_0_13 := Row2.below ot8_0_12' hp13 (by omega)
  have ot9_0_13 := Row2.below ot9_0_12' hp13 (by omega)
  have kb1_0_13 := (hp13.cell (p := ⟨w.heap.size, 0, none⟩) (by show w.heap.size < _; omega)).trans kb1_0_12'
  have kb1_1_13 := (hp13.cell (p := ⟨w.heap.size, 1, none⟩) (by show w.heap.size < _; omega)).trans kb1_1_12'
  have kb1_2_13 := (hp13.cell (p := ⟨w.heap.size, 2, none⟩) (by show w.heap.size < _; omega)).trans kb1_2_12'
  have kb1_3_13 := (hp13.cell (p := ⟨w.heap.size, 3, none⟩) (by show w.heap.size < _; omega)).trans kb1_3_12'
  have kb1_4_13 := (hp13.cell (p := ⟨w.heap.size, 4, none⟩) (by show w.heap.size < _; omega)).trans kb1_4_12'
  have kb1_5_13 := (hp13.cell (p := ⟨w.heap.size, 5, none⟩) (by show w.heap.size < _; omega)).trans kb1_5_12'
  have kb1_6_13 := (hp13.cell (p := ⟨w.heap.size, 6, none⟩) (by show w.heap.size < _; omega)).trans kb1_6_12'
  have kb1_7_13 := (hp13.cell (p := ⟨w.heap.size, 7, none⟩) (by show w.heap.size < _; omega)).trans kb1_7_12'
  have kb2_0_13 := (hp13.cell (p := ⟨w7.heap.size, 0, none⟩) (by show w7.heap.size < _; omega)).trans kb2_0_12'
  have kb2_1_13 := (hp13.cell (p := ⟨w7.heap.size, 1, none⟩) (by show w7.heap.size < _; omega)).trans kb2_1_12'
  have kb2_2_13 := (hp13.cell (p := ⟨w7.heap.size, 2, none⟩) (by show w7.heap.size < _; omega)).trans kb2_2_12'
  have kb2_3_13 := (hp13.cell (p := ⟨w7.heap.size, 3, none⟩) (by show w7.heap.size < _; omega)).trans kb2_3_12'
  have kb2_4_13 := (hp13.cell (p := ⟨w7.heap.size, 4, none⟩) (by show w7.heap.size < _; omega)).trans kb2_4_12'
  have kb2_5_13 := (hp13.cell (p := ⟨w7.heap.size, 5, none⟩) (by show w7.heap.size < _; omega)).trans kb2_5_12'
  have kb2_6_13 := (hp13.cell (p := ⟨w7.heap.size, 6, none⟩) (by show w7.heap.size < _; omega)).trans kb2_6_12'
  have kb2_7_13 := (hp13.cell (p := ⟨w7.heap.size, 7, none⟩) (by show w7.heap.size < _; omega)).trans kb2_7_12'
  have hB13 := hB12'.trans (hp13.mono hB12'.size)
  have hz13 : w12.heap.size ≤ W13.heap.size := hp13.size
  have hl_b1_13 : w.heap.size < W13.heap.size := by omega
  have hl_b2_13 : w7.heap.size < W13.heap.size := by omega
  have HW13 := Lib.hid hW13; clear hW13
  clear ot7_0_12' ot7_1_12' ot8_0_12' ot9_0_12' kb1_0_12' kb1_1_12' kb1_2_12' kb1_3_12' kb1_4_12' kb1_5_12' kb1_6_12' kb1_7_12' kb2_0_12' kb2_1_12' kb2_2_12' kb2_3_12' kb2_4_12' kb2_5_12' kb2_6_12' kb2_7_12'
  refine (toActS_any A1 c1 l1 _ (Rd.later h1_0 hB13) hs1).mono ?_
  rintro e w13 ⟨A'13, c'13, rfl, ho0_13, hb13⟩
  try simp only [Vg.val]
  have ot7_0_13' := Row2.below ot7_0_13 hb13 (by omega)
  have ot7_1_13' := Row2.below ot7_1_13 hb13 (by omega)
  have ot8_0_13' := Row2.below ot8_0_13 hb13 (by omega)
  have ot9_0_13' := Row2.below ot9_0_13 hb13 (by omega)
  have kb1_0_13' := (hb13.cell (p := ⟨w.heap.size, 0, none⟩) (by show w.heap.size < _; omega)).trans kb1_0_13
  have kb1_1_13' := (hb13.cell (p := ⟨w.heap.size, 1, none⟩) (by show w.heap.size < _; omega)).trans kb1_1_13
  have kb1_2_13' := (hb13.cell (p := ⟨w.heap.size, 2, none⟩) (by show w.heap.size < _; omega)).trans kb1_2_13
  have kb1_3_13' := (hb13.cell (p := ⟨w.heap.size, 3, none⟩) (by show w.heap.size < _; omega)).trans kb1_3_13
  have kb1_4_13' := (hb13.cell (p := ⟨w.heap.size, 4, none⟩) (by show w.heap.size < _; omega)).trans kb1_4_13
  have kb1_5_13' := (hb13.cell (p := ⟨w.heap.size, 5, none⟩) (by show w.heap.size < _; omega)).trans kb1_5_13
  have kb1_6_13' := (hb13.cell (p := ⟨w.heap.size, 6, none⟩) (by show w.heap.size < _; omega)).trans kb1_6_13
  have kb1_7_13' := (hb13.cell (p := ⟨w.heap.size, 7, none⟩) (by show w.heap.size < _; omega)).trans kb1_7_13
  have kb2_0_13' := (hb13.cell (p := ⟨w7.heap.size, 0, none⟩) (by show w7.heap.size < _; omega)).trans kb2_0_13
  have kb2_1_13' := (hb13.cell (p := ⟨w7.heap.size, 1, none⟩) (by show w7.heap.size < _; omega)).trans kb2_1_13
  have kb2_2_13' := (hb13.cell (p := ⟨w7.heap.size, 2, none⟩) (by show w7.heap.size < _; omega)).trans kb2_2_13
  have kb2_3_13' := (hb13.cell (p := ⟨w7.heap.size, 3, none⟩) (by show w7.heap.size < _; omega)).trans kb2_3_13
  have kb2_4_13' := (hb13.cell (p := ⟨w7.heap.size, 4, none⟩) (by show w7.heap.size < _; omega)).trans kb2_4_13
  have kb2_5_13' := (hb13.cell (p := ⟨w7.heap.size, 5, none⟩) (by show w7.heap.size < _; omega)).trans kb2_5_13
  have kb2_6_13' := (hb13.cell (p := ⟨w7.heap.size, 6, none⟩) (by show w7.heap.size < _; omega)).trans kb2_6_13
  have kb2_7_13' := (hb13.cell (p := ⟨w7.heap.size, 7, none⟩) (by show w7.heap.size < _; omega)).trans kb2_7_13
  have hB13' := hB13.trans (hb13.mono hB13.size)
  have hz13' : W13.heap.size ≤ w13.heap.size := hb13.size
  have hl_b1_13' : w.heap.size < w13.heap.size := by omega
  have hl_b2_13' : w7.heap.size < w13.heap.size := by omega
  have ot13_0_n := Row2.born ho0_13
  clear ot7_0_13 ot7_1_13 ot8_0_13 ot9_0_13 kb1_0_13 kb1_1_13 kb1_2_13 kb1_3_13 kb1_4_13 kb1_5_13 kb1_6_13 kb1_7_13 kb2_0_13 kb2_1_13 kb2_2_13 kb2_3_13 kb2_4_13 kb2_5_13 kb2_6_13 kb2_7_13 ho0_13
  go_wp2_with fail
  first | refine name_world ?_ | refine name_wp ?_
  intro W14 hW14
  have hp14 : Below w13.heap.size w13 W14 := by rw [hW14]; repeat' (first | (with_reducible exact Below.refl _ _) | (with_reducible refine Below.alloc ?_ ?_ _) | (with_reducible refine Below.setCell ?_ ?_ _) | (with_reducible refine Below.drew ?_) | (simp; done) | (simp; omega))
  have ot7_0_14 := Row2.below ot7_0_13' hp14 (by omega)
  have ot7_1_14 := Row2.below ot7_1_13' hp14 (by omega)
  have ot8_0_14 := Row2.below ot8_0_13' hp14 (by omega)
  have ot9_0_14 := Row2.below ot9_0_13' hp14 (by omega)
  have ot13_0_14 := Row2.below ot13_0_n hp14 (by omega)
  have kb1_0_14 := (hp14.cell (p := ⟨w.heap.size, 0, none⟩) (by show w.heap.size < _; omega)).trans kb1_0_13'
  have kb1_1_14 := (hp14.cell (p := ⟨w.heap.size, 1, none⟩) (by show w.heap.size < _; omega)).trans kb1_1_13'
  have kb1_2_14 := (hp14.cell (p := ⟨w.heap.size, 2, none⟩) (by show w.heap.size < _; omega)).trans kb1_2_13'
  have kb1_3_14 := (hp14.cell (p := ⟨w.heap.size, 3, none⟩) (by show w.heap.size < _; omega)).trans kb1_3_13'
  have kb1_4_14 := (hp14.cell (p := ⟨w.heap.size, 4, none⟩) (by show w.heap.size < _; omega)).trans kb1_4_13'
  have kb1_5_14 := (hp14.cell (p := ⟨w.heap.size, 5, none⟩) (by show w.heap.size < _; omega)).trans kb1_5_13'
  have kb1_6_14 := (hp14.cell (p := ⟨w.heap.size, 6, none⟩) (by show w.heap.size < _; omega)).trans kb1_6_13'
  have kb1_7_14 := (hp14.cell (p := ⟨w.heap.size, 7, none⟩) (by show w.heap.size < _; omega)).trans kb1_7_13'
  have kb2_0_14 := (hp14.cell (p := ⟨w7.heap.size, 0, none⟩) (by show w7.heap.size < _; omega)).trans kb2_0_13'
  have kb2_1_14 := (hp14.cell (p := ⟨w7.heap.size, 1, none⟩) (by show w7.heap.size < _; omega)).trans kb2_1_13'
  have kb2_2_14 := (hp14.cell (p := ⟨w7.heap.size, 2, none⟩) (by show w7.heap.size < _; omega)).trans kb2_2_13'
  have kb2_3_14 := (hp14.cell (p := ⟨w7.heap.size, 3, none⟩) (by show w7.heap.size < _; omega)).trans kb2_3_13'
  have kb2_4_14 := (hp14.cell (p := ⟨w7.heap.size, 4, none⟩) (by show w7.heap.size < _; omega)).trans kb2_4_13'
  have kb2_5_14 := (hp14.cell (p := ⟨w7.heap.size, 5, none⟩) (by show w7.heap.size < _; omega)).trans kb2_5_13'
  have kb2_6_14 := (hp14.cell (p := ⟨w7.heap.size, 6, none⟩) (by show w7.heap.size < _; omega)).trans kb2_6_13'
  have kb2_7_14 := (hp14.cell (p := ⟨w7.heap.size, 7, none⟩) (by show w7.heap.size < _; omega)).trans kb2_7_13'
  have hB14 := hB13'.trans (hp14.mono hB13'.size)
  have hz14 : w13.heap.size ≤ W14.heap.size := hp14.size
  have hl_b1_14 : w.heap.size < W14.heap.size := by omega
  have hl_b2_14 : w7.heap.size < W14.heap.size := by omega
  have HW14 := Lib.hid hW14; clear hW14
  clear ot7_0_13' ot7_1_13' ot8_0_13' ot9_0_13' ot13_0_n kb1_0_13' kb1_1_13' kb1_2_13' kb1_3_13' kb1_4_13' kb1_5_13' kb1_6_13' kb1_7_13' kb2_0_13' kb2_1_13' kb2_2_13' kb2_3_13' kb2_4_13' kb2_5_13' kb2_6_13' kb2_7_13'
  refine (eqActS_same A'8 c'8 A'13 c'13 (l1) _ ot8_0_14.rd ot13_0_14.rd).mono ?_
  rintro e w14 ⟨rfl, hb14⟩
  try simp only [Vg.val]
  have ot7_0_14' := Row2.below ot7_0_14 hb14 (by omega)
  have ot7_1_14' := Row2.below ot7_1_14 hb14 (by omega)
  have ot8_0_14' := Row2.below ot8_0_14 hb14 (by omega)
  have ot9_0_14' := Row2.below ot9_0_14 hb14 (by omega)
  have ot13_0_14' := Row2.below ot13_0_14 hb14 (by omega)
  have kb1_0_14' := (hb14.cell (p := ⟨w.heap.size, 0, none⟩) (by show w.heap.size < _; omega)).trans kb1_0_14
  have kb1_1_14' := (hb14.cell (p := ⟨w.heap.size, 1, none⟩) (by show w.heap.size < _; omega)).trans kb1_1_14
  have kb1_2_14' := (hb14.cell (p := ⟨w.heap.size, 2, none⟩) (by show w.heap.size < _; omega)).trans kb1_2_14
  have kb1_3_14' := (hb14.cell (p := ⟨w.heap.size, 3, none⟩) (by show w.heap.size < _; omega)).trans kb1_3_14
  have kb1_4_14' := (hb14.cell (p := ⟨w.heap.size, 4, none⟩) (by show w.heap.size < _; omega)).trans kb1_4_14
  have kb1_5_14' := (hb14.cell (p := ⟨w.heap.size, 5, none⟩) (by show w.heap.size < _; omega)).trans kb1_5_14
  have kb1_6_14' := (hb14.cell (p := ⟨w.heap.size, 6, none⟩) (by show w.heap.size < _; omega)).trans kb1_6_14
  have kb1_7_14' := (hb14.cell (p := ⟨w.heap.size, 7, none⟩) (by show w.heap.size < _; omega)).trans kb1_7_14
  have kb2_0_14' := (hb14.cell (p := ⟨w7.heap.size, 0, none⟩) (by show w7.heap.size < _; omega)).trans kb2_0_14
  have kb2_1_14' := (hb14.cell (p := ⟨w7.heap.size, 1, none⟩) (by show w7.heap.size < _; omega)).trans kb2_1_14
  have kb2_2_14' := (hb14.cell (p := ⟨w7.heap.size, 2, none⟩) (by show w7.heap.size < _; omega)).trans kb2_2_14
  have kb2_3_14' := (hb14.cell (p := ⟨w7.heap.size, 3, none⟩) (by show w7.heap.size < _; omega)).trans kb2_3_14
  have kb2_4_14' := (hb14.cell (p := ⟨w7.heap.size, 4, none⟩) (by show w7.heap.size < _; omega)).trans kb2_4_14
  have kb2_5_14' := (hb14.cell (p := ⟨w7.heap.size, 5, none⟩) (by show w7.heap.size < _; omega)).trans kb2_5_14
  have kb2_6_14' := (hb14.cell (p := ⟨w7.heap.size, 6, none⟩) (by show w7.heap.size < _; omega)).trans kb2_6_14
  have kb2_7_14' := (hb14.cell (p := ⟨w7.heap.size, 7, none⟩) (by show w7.heap.size < _; omega)).trans kb2_7_14
  have hB14' := hB14.trans (hb14.mono hB14.size)
  have hz14' : W14.heap.size ≤ w14.heap.size := hb14.size
  have hl_b1_14' : w.heap.size < w14.heap.size := by omega
  have hl_b2_14' : w7.heap.size < w14.heap.size := by omega
  clear ot7_0_14 ot7_1_14 ot8_0_14 ot9_0_14 ot13_0_14 kb1_0_14 kb1_1_14 kb1_2_14 kb1_3_14 kb1_4_14 kb1_5_14 kb1_6_14 kb1_7_14 kb2_0_14 kb2_1_14 kb2_2_14 kb2_3_14 kb2_4_14 kb2_5_14 kb2_6_14 kb2_7_14
  go_wp2_with fail
  first | refine name_world ?_ | refine name_wp ?_
  intro W15 hW15
  have hp15 : Below w14.heap.size w14 W15 := by rw [hW15]; repeat' (first | (with_reducible exact Below.refl _ _) | (with_reducible refine Below.alloc ?_ ?_ _) | (with_reducible refine Below.setCell ?_ ?_ _) | (with_reducible refine Below.drew ?_) | (simp; done) | (simp; omega))
  have ot7_0_15 := Row2.below ot7_0_14' hp15 (by omega)
  have ot7_1_15 := Row2.below ot7_1_14' hp15 (by omega)
  have ot8_0_15 := Row2.below ot8_0_14' hp15 (by omega)
  have ot9_0_15 := Row2.below ot9_0_14' hp15 (by omega)
  have kb1_0_15 := (hp15.cell (p := ⟨w.heap.size, 0, none⟩) (by show w.heap.size < _; omega)).trans kb1_0_14'
  have kb1_1_15 := (hp15.cell (p := ⟨w.heap.size, 1, none⟩) (by show w.heap.size < _; omega)).trans kb1_1_14'
  have kb1_2_15 := (hp15.cell (p := ⟨w.heap.size, 2, none⟩) (by show w.heap.size < _; omega)).trans kb1_2_14'
  have kb1_3_15 := (hp15.cell (p := ⟨w.heap.size, 3, none⟩) (by show w.heap.size < _; omega)).trans kb1_3_14'
  have kb1_4_15 := (hp15.cell (p := ⟨w.heap.size, 4, none⟩) (by show w.heap.size < _; omega)).trans kb1_4_14'
  have kb1_5_15 := (hp15.cell (p := ⟨w.heap.size, 5, none⟩) (by show w.heap.size < _; omega)).trans kb1_5_14'
  have kb1_6_15 := (hp15.cell (p := ⟨w.heap.size, 6, none⟩) (by show w.heap.size < _; omega)).trans kb1_6_14'
  have kb1_7_15 := (hp15.cell (p := ⟨w.heap.size, 7, none⟩) (by show w.heap.size < _; omega)).trans kb1_7_14'
  have kb2_0_15 := (hp15.cell (p := ⟨w7.heap.size, 0, none⟩) (by show w7.heap.size < _; omega)).trans kb2_0_14'
  have kb2_1_15 := (hp15.cell (p := ⟨w7.heap.size, 1, none⟩) (by show w7.heap.size < _; omega)).trans kb2_1_14'
  have kb2_2_15 := (hp15.cell (p := ⟨w7.heap.size, 2, none⟩) (by show w7.heap.size < _; omega)).trans kb2_2_14'
  have kb2_3_15 := (hp15.cell (p := ⟨w7.heap.size, 3, none⟩) (by show w7.heap.size < _; omega)).trans kb2_3_14'
  have kb2_4_15 := (hp15.cell (p := ⟨w7.heap.size, 4, none⟩) (by show w7.heap.size < _; omega)).trans kb2_4_14'
  have kb2_5_15 := (hp15.cell (p := ⟨w7.heap.size, 5, none⟩) (by show w7.heap.size < _; omega)).trans kb2_5_14'
  have kb2_6_15 := (hp15.cell (p := ⟨w7.heap.size, 6, none⟩) (by show w7.heap.size < _; omega)).trans kb2_6_14'
  have kb2_7_15 := (hp15.cell (p := ⟨w7.heap.size, 7, none⟩) (by show w7.heap.size < _; omega)).trans kb2_7_14'
  have hB15 := hB14'.trans (hp15.mono hB14'.size)
  have hz15 : w14.heap.size ≤ W15.heap.size := hp15.size
  have hl_b1_15 : w.heap.size < W15.heap.size := by omega
  have hl_b2_15 : w7.heap.size < W15.heap.size := by omega
  have HW15 := Lib.hid hW15; clear hW15
  clear ot7_0_14' ot7_1_14' ot8_0_14' ot9_0_14' kb1_0_14' kb1_1_14' kb1_2_14' kb1_3_14' kb1_4_14' kb1_5_14' kb1_6_14' kb1_7_14' kb2_0_14' kb2_1_14' kb2_2_14' kb2_3_14' kb2_4_14' kb2_5_14' kb2_6_14' kb2_7_14'
  refine (toIntS_any A2 c2 l2 _ (Rd.later h2_0 hB15) hs2).mono ?_
  rintro e w15 ⟨A'15, c'15, rfl, ho0_15, hb15⟩
  try simp only [Vg.val]
  have ot7_0_15' := Row2.below ot7_0_15 hb15 (by omega)
  have ot7_1_15' := Row2.below ot7_1_15 hb15 (by omega)
  have ot8_0_15' := Row2.below ot8_0_15 hb15 (by omega)
  have ot9_0_15' := Row2.below ot9_0_15 hb15 (by omega)
  have kb1_0_15' := (hb15.cell (p := ⟨w.heap.size, 0, none⟩) (by show w.heap.size < _; omega)).trans kb1_0_15
  have kb1_1_15' := (hb15.cell (p := ⟨w.heap.size, 1, none⟩) (by show w.heap.size < _; omega)).trans kb1_1_15
  have kb1_2_15' := (hb15.cell (p := ⟨w.heap.size, 2, none⟩) (by show w.heap.size < _; omega)).trans kb1_2_15
  have kb1_3_15' := (hb15.cell (p := ⟨w.heap.size, 3, none⟩) (by show w.heap.size < _; omega)).trans kb1_3_15
  have kb1_4_15' := (hb15.cell (p := ⟨w.heap.size, 4, none⟩) (by show w.heap.size < _; omega)).trans kb1_4_15
  have kb1_5_15' := (hb15.cell (p := ⟨w.heap.size, 5, none⟩) (by show w.heap.size < _; omega)).trans kb1_5_15
  have kb1_6_15' := (hb15.cell (p := ⟨w.heap.size, 6, none⟩) (by show w.heap.size < _; omega)).trans kb1_6_15
  have kb1_7_15' := (hb15.cell (p := ⟨w.heap.size, 7, none⟩) (by show w.heap.size < _; omega)).trans kb1_7_15
  have kb2_0_15' := (hb15.cell (p := ⟨w7.heap.size, 0, none⟩) (by show w7.heap.size < _; omega)).trans kb2_0_15
  have kb2_1_15' := (hb15.cell (p := ⟨w7.heap.size, 1, none⟩) (by show w7.heap.size < _; omega)).trans kb2_1_15
  have kb2_2_15' := (hb15.cell (p := ⟨w7.heap.size, 2, none⟩) (by show w7.heap.size < _; omega)).trans kb2_2_15
  have kb2_3_15' := (hb15.cell (p := ⟨w7.heap.size, 3, none⟩) (by show w7.heap.size < _; omega)).trans kb2_3_15
  have kb2_4_15' := (hb15.cell (p := ⟨w7.heap.size, 4, none⟩) (by show w7.heap.size < _; omega)).trans kb2_4_15
  have kb2_5_15' := (hb15.cell (p := ⟨w7.heap.size, 5, none⟩) (by show w7.heap.size < _; omega)).trans kb2_5_15
  have kb2_6_15' := (hb15.cell (p := ⟨w7.heap.size, 6, none⟩) (by show w7.heap.size < _; omega)).trans kb2_6_15
  have kb2_7_15' := (hb15.cell (p := ⟨w7.heap.size, 7, none⟩) (by show w7.heap.size < _; omega)).trans kb2_7_15
  have hB15' := hB15.trans (hb15.mono hB15.size)
  have hz15' : W15.heap.size ≤ w15.heap.size := hb15.size
  have hl_b1_15' : w.heap.size < w15.heap.size := by omega
  have hl_b2_15' : w7.heap.size < w15.heap.size := by omega
  have ot15_0_n := Row2.born ho0_15
  clear ot7_0_15 ot7_1_15 ot8_0_15 ot9_0_15 kb1_0_15 kb1_1_15 kb1_2_15 kb1_3_15 kb1_4_15 kb1_5_15 kb1_6_15 kb1_7_15 kb2_0_15 kb2_1_15 kb2_2_15 kb2_3_15 kb2_4_15 kb2_5_15 kb2_6_15 kb2_7_15 ho0_15
  go_wp2_with fail
  first | refine name_world ?_ | refine name_wp ?_
  intro W16 hW16
  have hp16 : Below w15.heap.size w15 W16 := by rw [hW16]; repeat' (first | (with_reducible exact Below.refl _ _) | (with_reducible refine Below.alloc ?_ ?_ _) | (with_reducible refine Below.setCell ?_ ?_ _) | (with_reducible refine Below.drew ?_) | (simp; done) | (simp; omega))
  have ot7_0_16 := Row2.below ot7_0_15' hp16 (by omega)
  have ot7_1_16 := Row2.below ot7_1_15' hp16 (by omega)
  have ot8_0_16 := Row2.below ot8_0_15' hp16 (by omega)
  have ot9_0_16 := Row2.below ot9_0_15' hp16 (by omega)
  have ot15_0_16 := Row2.below ot15_0_n hp16 (by omega)
  have kb1_0_16 := (hp16.cell (p := ⟨w.heap.size, 0, none⟩) (by show w.heap.size < _; omega)).trans kb1_0_15'
  have kb1_1_16 := (hp16.cell (p := ⟨w.heap.size, 1, none⟩) (by show w.heap.size < _; omega)).trans kb1_1_15'
  have kb1_2_16 := (hp16.cell (p := ⟨w.heap.size, 2, none⟩) (by show w.heap.size < _; omega)).trans kb1_2_15'
  have kb1_3_16 := (hp16.cell (p := ⟨w.heap.size, 3, none⟩) (by show w.heap.size < _; omega)).trans kb1_3_15'
  have kb1_4_16 := (hp16.cell (p := ⟨w.heap.size, 4, none⟩) (by show w.heap.size < _; omega)).trans kb1_4_15'
  have kb1_5_16 := (hp16.cell (p := ⟨w.heap.size, 5, none⟩) (by show w.heap.size < _; omega)).trans kb1_5_15'
  have kb1_6_16 := (hp16.cell (p := ⟨w.heap.size, 6, none⟩) (by show w.heap.size < _; omega)).trans kb1_6_15'
  have kb1_7_16 := (hp16.cell (p := ⟨w.heap.size, 7, none⟩) (by show w.heap.size < _; omega)).trans kb1_7_15'
  have kb2_0_16 := (hp16.cell (p := ⟨w7.heap.size, 0, none⟩) (by show w7.heap.size < _; omega)).trans kb2_0_15'
  have kb2_1_16 := (hp16.cell (p := ⟨w7.heap.size, 1, none⟩) (by show w7.heap.size < _; omega)).trans kb2_1_15'
  have kb2_2_16 := (hp16.cell (p := ⟨w7.heap.size, 2, none⟩) (by show w7.heap.size < _; omega)).trans kb2_2_15'
  have kb2_3_16 := (hp16.cell (p := ⟨w7.heap.size, 3, none⟩) (by show w7.heap.size < _; omega)).trans kb2_3_15'
  have kb2_4_16 := (hp16.cell (p := ⟨w7.heap.size, 4, none⟩) (by show w7.heap.size < _; omega)).trans kb2_4_15'
  have kb2_5_16 := (hp16.cell (p := ⟨w7.heap.size, 5, none⟩) (by show w7.heap.size < _; omega)).trans kb2_5_15'
  have kb2_6_16 := (hp16.cell (p := ⟨w7.heap.size, 6, none⟩) (by show w7.heap.size < _; omega)).trans kb2_6_15'
  have kb2_7_16 := (hp16.cell (p := ⟨w7.heap.size, 7, none⟩) (by show w7.heap.size < _; omega)).trans kb2_7_15'
  have hB16 := hB15'.trans (hp16.mono hB15'.size)
  have hz16 : w15.heap.size ≤ W16.heap.size := hp16.size
  have hl_b1_16 : w.heap.size < W16.heap.size := by omega
  have hl_b2_16 : w7.heap.size < W16.heap.size := by omega
  have HW16 := Lib.hid hW16; clear hW16
  clear ot7_0_15' ot7_1_15' ot8_0_15' ot9_0_15' ot15_0_n kb1_0_15' kb1_1_15' kb1_2_15' kb1_3_15' kb1_4_15' kb1_5_15' kb1_6_15' kb1_7_15' kb2_0_15' kb2_1_15' kb2_2_15' kb2_3_15' kb2_4_15' kb2_5_15' kb2_6_15' kb2_7_15'
  refine (eqIntS_same A'9 c'9 A'15 c'15 (l2) _ ot9_0_16.rd ot15_0_16.rd).mono ?_
  rintro e w16 ⟨rfl, hb16⟩
  try simp only [Vg.val]
  have ot7_0_16' := Row2.below ot7_0_16 hb16 (by omega)
  have ot7_1_16' := Row2.below ot7_1_16 hb16 (by omega)
  have ot8_0_16' := Row2.below ot8_0_16 hb16 (by omega)
  have ot9_0_16' := Row2.below ot9_0_16 hb16 (by omega)
  have ot15_0_16' := Row2.below ot15_0_16 hb16 (by omega)
  have kb1_0_16' := (hb16.cell (p := ⟨w.heap.size, 0, none⟩) (by show w.heap.size < _; omega)).trans kb1_0_16
  have kb1_1_16' := (hb16.cell (p := ⟨w.heap.size, 1, none⟩) (by show w.heap.size < _; omega)).trans kb1_1_16
  have kb1_2_16' := (hb16.cell (p := ⟨w.heap.size, 2, none⟩) (by show w.heap.size < _; omega)).trans kb1_2_16
  have kb1_3_16' := (hb16.cell (p := ⟨w.heap.size, 3, none⟩) (by show w.heap.size < _; omega)).trans kb1_3_16
  have kb1_4_16' := (hb16.cell (p := ⟨w.heap.size, 4, none⟩) (by show w.heap.size < _; omega)).trans kb1_4_16
  have kb1_5_16' := (hb16.cell (p := ⟨w.heap.size, 5, none⟩) (by show w.heap.size < _; omega)).trans kb1_5_16
  have kb1_6_16' := (hb16.cell (p := ⟨w.heap.size, 6, none⟩) (by show w.heap.size < _; omega)).trans kb1_6_16
  have kb1_7_16' := (hb16.cell (p := ⟨w.heap.size, 7, none⟩) (by show w.heap.size < _; omega)).trans kb1_7_16
  have kb2_0_16' := (hb16.cell (p := ⟨w7.heap.size, 0, none⟩) (by show w7.heap.size < _; omega)).trans kb2_0_16
  have kb2_1_16' := (hb16.cell (p := ⟨w7.heap.size, 1, none⟩) (by show w7.heap.size < _; omega)).trans kb2_1_16
  have kb2_2_16' := (hb16.cell (p := ⟨w7.heap.size, 2, none⟩) (by show w7.heap.size < _; omega)).trans kb2_2_16
  have kb2_3_16' := (hb16.cell (p := ⟨w7.heap.size, 3, none⟩) (by show w7.heap.size < _; omega)).trans kb2_3_16
  have kb2_4_16' := (hb16.cell (p := ⟨w7.heap.size, 4, none⟩) (by show w7.heap.size < _; omega)).trans kb2_4_16
  have kb2_5_16' := (hb16.cell (p := ⟨w7.heap.size, 5, none⟩) (by show w7.heap.size < _; omega)).trans kb2_5_16
  have kb2_6_16' := (hb16.cell (p := ⟨w7.heap.size, 6, none⟩) (by show w7.heap.size < _; omega)).trans kb2_6_16
  have kb2_7_16' := (hb16.cell (p := ⟨w7.heap.size, 7, none⟩) (by show w7.heap.size < _; omega)).trans kb2_7_16
  have hB16' := hB16.trans (hb16.mono hB16.size)
  have hz16' : W16.heap.size ≤ w16.heap.size := hb16.size
  have hl_b1_16' : w.heap.size < w16.heap.size := by omega
  have hl_b2_16' : w7.heap.size < w16.heap.size := by omega
  clear ot7_0_16 ot7_1_16 ot8_0_16 ot9_0_16 ot15_0_16 kb1_0_16 kb1_1_16 kb1_2_16 kb1_3_16 kb1_4_16 kb1_5_16 kb1_6_16 kb1_7_16 kb2_0_16 kb2_1_16 kb2_2_16 kb2_3_16 kb2_4_16 kb2_5_16 kb2_6_16 kb2_7_16
  go_wp2_with fail
  go_ret
  exact ⟨rfl, by first | exact hB16' | (refine hB16'.trans (Below.mono (B := w16.heap.size) ?_ hB16'.size); repeat' (first | (with_reducible exact Below.refl _ _) | (with_reducible refine Below.alloc ?_ ?_ _) | (with_reducible refine Below.setCell ?_ ?_ _) | (with_reducible refine Below.drew ?_) | (simp; done) | (simp; omega)))⟩
set_option maxRecDepth 100000 in
theorem lifted_FnExactIsReplay (os : Os) (started : os.Started) (H : Type) (enc : TypeId × Value → H) :
    ReturnsInHanded {} Tryz.checked os 5 .any (Rows.fnExactIsReplaySpec.pre6 enc Tryz.prog Tryz.f5 Rows.fnExactIsReplayRow.domain false) (Rows.fnExactIsReplaySpec.post enc Tryz.prog Tryz.f5 false true false false) := by
  refine returnsInHanded_of_change (C := Tryz.checked) own_knob started (by kernel_rfl) Tryz.func5
    (ChangeSpec.witness6 (enc := enc) (C := Tryz.checked) false ⟨#[], #[.agg #[.int .i64 0, .int .i64 0, .slice none 0 0, .int .i64 0, .int .i64 0, .int .i64 0, .int .i64 0, .slice none 0 0], .slice none 0 0, .slice none 0 0], []⟩ 8 (by kernel_rfl) (by kernel_rfl) (by kernel_rfl) (by kernel_rfl)) ?_
  intro W base args ds gs before hval0 hW hcnd _
  have hval : ∀ (j : Nat) t v, Tryz.f5.params[j]? = some t → args[j]? = some v → Value.okWide Tryz.prog W .any base t v := hval0
  have hW' := hW
  obtain ⟨p, q, hA0, hV, rfl, hfz, hnd⟩ := hW
  have hA : DataW.TrodAll enc Tryz.prog W 0 (fun _ => true) true Tryz.f5.params.toList args.toList ds p := hA0
  rw [Tryz.params5] at hA hval
  obtain ⟨v0, vs0, d0, ds0, p0, q0, hargs, rfl, rfl, h0, r0⟩ := trodAll_cons hA
  obtain ⟨v1, vs1, d1, ds1, p1, q1, rfl, rfl, rfl, h1, r1⟩ := trodAll_cons r0
  obtain ⟨v2, vs2, d2, ds2, p2, q2, rfl, rfl, rfl, h2, r2⟩ := trodAll_cons r1
  obtain ⟨rfl, rfl, rfl⟩ := trodAll_nil r2
  obtain rfl : args = #[v0, v1, v2] := by cases args; simp_all
  obtain ⟨rfl, rfl⟩ := trodVars_none hV
  obtain ⟨A0, c0, B0, e0, x0, rfl, hr0, hq0⟩ := arg_village (hval 0 27 v0 rfl rfl) h0
  have lt0 : ∀ x ∈ p0, x.block < W.heap.size := by obtain ⟨m, hm⟩ := h0; exact DataW.trod_lt m _ _ _ hm
  obtain ⟨A1, c1, l1, rfl, hr1⟩ := arg_acts (hval 1 45 v1 rfl rfl) h1
  have lt1 : ∀ x ∈ p1, x.block < W.heap.size := by obtain ⟨m, hm⟩ := h1; exact DataW.trod_lt m _ _ _ hm
  obtain ⟨A2, c2, l2, rfl, hr2⟩ := arg_ints (hval 2 47 v2 rfl rfl) h2
  have lt2 : ∀ x ∈ p2, x.block < W.heap.size := by obtain ⟨m, hm⟩ := h2; exact DataW.trod_lt m _ _ _ hm
  clear hA0 hval0
  refine (walk_FnExactIsReplay W A0 c0 B0 e0 x0 hr0 hq0 A1 c1 l1 hr1 A2 c2 l2 hr2).mono fun e W' ⟨he, bel⟩ => ?_
  subst he
  exact ⟨_, rfl, _, _, _, [], _, [], hW', trodAll_mk1 (shut_bool Tryz.underlying4 _), (trodAll_cons_mk (Below.trod laid_out (by kernel_rfl) (of_decide_eq_true (by kernel_rfl)) h0 bel lt0) (trodAll_cons_mk (Below.trod laid_out (by kernel_rfl) (of_decide_eq_true (by kernel_rfl)) h1 bel lt1) (trodAll_cons_mk (Below.trod laid_out (by kernel_rfl) (of_decide_eq_true (by kernel_rfl)) h2 bel lt2) trodAll_mk0))), rfl, bel.frame _, fun h => by cases h⟩

theorem fnExactIsReplay_holds : Rows.FnExactIsReplaySaid :=
  OpenClaim.holds_of_wide 5 Tryz.f5 rfl rfl rfl rfl rfl rfl rfl ⟨rfl, rfl, rfl, rfl, rfl⟩ rfl rfl rfl rfl rfl (by kernel_rfl) Tryz.func5 (by kernel_rfl)
    (of_decide_eq_true (by kernel_rfl)) (by unfold Func.isWrapper; rw [if_neg (by decide +kernel)]; exact ⟨rfl, rfl⟩)
    (fun os started H enc _ => lifted_FnExactIsReplay os started H enc)
end Go.Proofs.YtljidaniidfdoaaGreat
