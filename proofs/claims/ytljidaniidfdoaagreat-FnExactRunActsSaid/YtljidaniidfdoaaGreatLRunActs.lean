/- The law FnExactRunActs answers true for every village and every list of acts. No conditions. -/
import Derived.Test.YtljidaniidfdoaaGreatVill2
import Derived.Test.YtljidaniidfdoaaGreatRunActs
import Derived.Test.YtljidaniidfdoaaGreatRunActsS
import Derived.Test.YtljidaniidfdoaaGreatKe
import Derived.Deep.RegionHeld3
import Derived.Test.YtljidaniidfdoaaGreatTo
import Derived.Test.YtljidaniidfdoaaGreatKb
import Derived.Test.YtljidaniidfdoaaGreatKa
namespace Go.Proofs.YtljidaniidfdoaaGreat
open Go.ChangeShapes Go.WideShapes Go.ChangeAt Go.RowKit
set_option maxRecDepth 20000
set_option maxHeartbeats 6400000 in
theorem walk_FnExactRunActs (w : World) (A0 : Option Addr) (c0 : Nat) (R0 : Option Addr) (d0 : Nat) (v0 : Vg) (h0_0 : RdT w w.heap.size A0 c0 v0.book.evs) (h0_1 : RdT w w.heap.size R0 d0 v0.rights) (A1 : Option Addr) (c1 : Nat) (l1 : List T3) (h1_0 : RdT w w.heap.size A1 c1 l1) :
    Calls Tryz.prog 4 #[(Vg.val v0 A0 c0 R0 d0), .slice A1 l1.length c1] w fun e w' => e = .returned (.bool true) ∧ Below w.heap.size w w' := by
  by_cases hbig0 : (1048576 : Int) < (v0.book.evs.length + v0.rights.length)
  · unfold Vg.val; go_enter Tryz.func4, Tryz.ntmps4
    go_wp2_with fail
    refine (szVillage_big A0 c0 R0 d0 v0 _ _ (by omega) (by omega) (by omega) (by have := h0_0.le; omega) (by have := h0_1.le; omega)).mono ?_
    rintro e w0' ⟨rfl, hb0'⟩
    go_wp2_with fail
    go_ret
    exact ⟨rfl, by exact tacT⟩
  have hs0 : (v0.book.evs.length + v0.rights.length) ≤ 1048576 := by omega
  by_cases hbig1 : (1048576 - (v0.book.evs.length + v0.rights.length) : Int) < l1.length
  · unfold Vg.val; go_enter Tryz.func4, Tryz.ntmps4
    go_wp2_with fail
    refine (szVillage_ok A0 c0 R0 d0 v0 _ _ (by omega) (by omega)).mono ?_
    rintro e w0' ⟨rfl, hb0'⟩
    have hsz0' : w.heap.size ≤ w0'.heap.size := by have h9 := hb0'.size; first | omega | (simp at h9; omega)
    go_wp2_with fail
    refine (szActS_big A1 c1 l1 _ _ (by omega) (by omega) (by have := h1_0.le; omega)).mono ?_
    rintro e w1' ⟨rfl, hb1'⟩
    go_wp2_with fail
    go_ret
    exact ⟨rfl, by exact tacT⟩
  have hs1 : l1.length ≤ 1048576 := by omega
  have hsl := runActs_len v0 l1
  have hB0 : Below w.heap.size w w := Below.refl _ _
  unfold Vg.val; go_enter Tryz.func4, Tryz.ntmps4
  go_wp2_with fail
  first | refine name_world ?_ | refine name_wp ?_
  intro W1 hW1
  have hp1 : Below w.heap.size w W1 := by rw [hW1]; repeat' (first | (with_reducible exact Below.refl _ _) | (with_reducible refine Below.alloc ?_ ?_ _) | (with_reducible refine Below.setCell ?_ ?_ _) | (with_reducible refine Below.drew ?_) | (simp; done) | (simp; omega))
  have kb1_0_1 : W1.cell? ⟨w.heap.size, 0, none⟩ = some (.int .i64 v0.book.room) := by rw [hW1]; simp [go_sem]
  have kb1_1_1 : W1.cell? ⟨w.heap.size, 1, none⟩ = some (.int .i64 v0.book.start) := by rw [hW1]; simp [go_sem]
  have kb1_2_1 : W1.cell? ⟨w.heap.size, 2, none⟩ = some (.slice A0 v0.book.evs.length c0) := by rw [hW1]; simp [go_sem]
  have kb1_3_1 : W1.cell? ⟨w.heap.size, 3, none⟩ = some (.int .i64 v0.book.level) := by rw [hW1]; simp [go_sem]
  have kb1_4_1 : W1.cell? ⟨w.heap.size, 4, none⟩ = some (.int .i64 v0.book.rained) := by rw [hW1]; simp [go_sem]
  have kb1_5_1 : W1.cell? ⟨w.heap.size, 5, none⟩ = some (.int .i64 v0.book.drunk) := by rw [hW1]; simp [go_sem]
  have kb1_6_1 : W1.cell? ⟨w.heap.size, 6, none⟩ = some (.int .i64 v0.book.lost) := by rw [hW1]; simp [go_sem]
  have kb1_7_1 : W1.cell? ⟨w.heap.size, 7, none⟩ = some (.slice R0 v0.rights.length d0) := by rw [hW1]; simp [go_sem]
  have hl_b1 : w.heap.size < W1.heap.size := by rw [hW1]; first | (simp; done) | (simp; omega)
  have hB1 := hB0.trans (hp1.mono hB0.size)
  have hz1 : w.heap.size ≤ W1.heap.size := hp1.size
  have HW1 := Lib.hid hW1; clear hW1
  refine (szVillage_ok A0 c0 R0 d0 v0 _ _ (by omega) (by omega)).mono ?_
  rintro e w1 ⟨rfl, hb1⟩
  try simp only [Vg.val]
  obtain ⟨kb1_0_1', kb1_1_1', kb1_2_1', kb1_3_1', kb1_4_1', kb1_5_1', kb1_6_1', kb1_7_1'⟩ := keep8 hb1 (by show w.heap.size < _; omega) kb1_0_1 kb1_1_1 kb1_2_1 kb1_3_1 kb1_4_1 kb1_5_1 kb1_6_1 kb1_7_1
  have hB1' := hB1.trans (hb1.mono hB1.size)
  have hz1' : W1.heap.size ≤ w1.heap.size := hb1.size
  have hl_b1_1' : w.heap.size < w1.heap.size := by omega
  clear kb1_0_1 kb1_1_1 kb1_2_1 kb1_3_1 kb1_4_1 kb1_5_1 kb1_6_1 kb1_7_1
  go_wp2_with fail
  first | refine name_world ?_ | refine name_wp ?_
  intro W2 hW2
  have hp2 : Below w1.heap.size w1 W2 := by rw [hW2]; repeat' (first | (with_reducible exact Below.refl _ _) | (with_reducible refine Below.alloc ?_ ?_ _) | (with_reducible refine Below.setCell ?_ ?_ _) | (with_reducible refine Below.drew ?_) | (simp; done) | (simp; omega))
  obtain ⟨kb1_0_2, kb1_1_2, kb1_2_2, kb1_3_2, kb1_4_2, kb1_5_2, kb1_6_2, kb1_7_2⟩ := keep8 hp2 (by show w.heap.size < _; omega) kb1_0_1' kb1_1_1' kb1_2_1' kb1_3_1' kb1_4_1' kb1_5_1' kb1_6_1' kb1_7_1'
  have hB2 := hB1'.trans (hp2.mono hB1'.size)
  have hz2 : w1.heap.size ≤ W2.heap.size := hp2.size
  have hl_b1_2 : w.heap.size < W2.heap.size := by omega
  have HW2 := Lib.hid hW2; clear hW2
  clear kb1_0_1' kb1_1_1' kb1_2_1' kb1_3_1' kb1_4_1' kb1_5_1' kb1_6_1' kb1_7_1'
  refine (szActS_ok A1 c1 l1 _ _ (by omega) (by omega)).mono ?_
  rintro e w2 ⟨rfl, hb2⟩
  try simp only [Vg.val]
  obtain ⟨kb1_0_2', kb1_1_2', kb1_2_2', kb1_3_2', kb1_4_2', kb1_5_2', kb1_6_2', kb1_7_2'⟩ := keep8 hb2 (by show w.heap.size < _; omega) kb1_0_2 kb1_1_2 kb1_2_2 kb1_3_2 kb1_4_2 kb1_5_2 kb1_6_2 kb1_7_2
  have hB2' := hB2.trans (hb2.mono hB2.size)
  have hz2' : W2.heap.size ≤ w2.heap.size := hb2.size
  have hl_b1_2' : w.heap.size < w2.heap.size := by omega
  clear kb1_0_2 kb1_1_2 kb1_2_2 kb1_3_2 kb1_4_2 kb1_5_2 kb1_6_2 kb1_7_2
  go_wp2_with fail
  first | refine name_world ?_ | refine name_wp ?_
  intro W3 hW3
  have hp3 : Below w2.heap.size w2 W3 := by rw [hW3]; repeat' (first | (with_reducible exact Below.refl _ _) | (with_reducible refine Below.alloc ?_ ?_ _) | (with_reducible refine Below.setCell ?_ ?_ _) | (with_reducible refine Below.drew ?_) | (simp; done) | (simp; omega))
  obtain ⟨kb1_0_3, kb1_1_3, kb1_2_3, kb1_3_3, kb1_4_3, kb1_5_3, kb1_6_3, kb1_7_3⟩ := keep8 hp3 (by show w.heap.size < _; omega) kb1_0_2' kb1_1_2' kb1_2_2' kb1_3_2' kb1_4_2' kb1_5_2' kb1_6_2' kb1_7_2'
  have hB3 := hB2'.trans (hp3.mono hB2'.size)
  have hz3 : w2.heap.size ≤ W3.heap.size := hp3.size
  have hl_b1_3 : w.heap.size < W3.heap.size := by omega
  have HW3 := Lib.hid hW3; clear hW3
  clear kb1_0_2' kb1_1_2' kb1_2_2' kb1_3_2' kb1_4_2' kb1_5_2' kb1_6_2' kb1_7_2'
  refine (toVillage_any A0 c0 R0 d0 v0 _ (Rd.later h0_0 hB3) (Rd.later h0_1 hB3) hs0).mono ?_
  rintro e w3 ⟨A'3, c'3, R'3, d'3, rfl, ho0_3, ho1_3, hb3⟩
  try simp only [Vg.val]
  obtain ⟨kb1_0_3', kb1_1_3', kb1_2_3', kb1_3_3', kb1_4_3', kb1_5_3', kb1_6_3', kb1_7_3'⟩ := keep8 hb3 (by show w.heap.size < _; omega) kb1_0_3 kb1_1_3 kb1_2_3 kb1_3_3 kb1_4_3 kb1_5_3 kb1_6_3 kb1_7_3
  have hB3' := hB3.trans (hb3.mono hB3.size)
  have hz3' : W3.heap.size ≤ w3.heap.size := hb3.size
  have hl_b1_3' : w.heap.size < w3.heap.size := by omega
  have ot3_0_n := Row2.born ho0_3
  have ot3_1_n := Row2.born ho1_3
  clear kb1_0_3 kb1_1_3 kb1_2_3 kb1_3_3 kb1_4_3 kb1_5_3 kb1_6_3 kb1_7_3 ho0_3 ho1_3
  go_wp2_with fail
  first | refine name_world ?_ | refine name_wp ?_
  intro W4 hW4
  have hp4 : Below w3.heap.size w3 W4 := by rw [hW4]; repeat' (first | (with_reducible exact Below.refl _ _) | (with_reducible refine Below.alloc ?_ ?_ _) | (with_reducible refine Below.setCell ?_ ?_ _) | (with_reducible refine Below.drew ?_) | (simp; done) | (simp; omega))
  have ot3_0_4 := Row2.below ot3_0_n hp4 (by omega)
  have ot3_1_4 := Row2.below ot3_1_n hp4 (by omega)
  clear ot3_0_n ot3_1_n
  obtain ⟨kb1_0_4, kb1_1_4, kb1_2_4, kb1_3_4, kb1_4_4, kb1_5_4, kb1_6_4, kb1_7_4⟩ := keep8 hp4 (by show w.heap.size < _; omega) kb1_0_3' kb1_1_3' kb1_2_3' kb1_3_3' kb1_4_3' kb1_5_3' kb1_6_3' kb1_7_3'
  have hB4 := hB3'.trans (hp4.mono hB3'.size)
  have hz4 : w3.heap.size ≤ W4.heap.size := hp4.size
  have hl_b1_4 : w.heap.size < W4.heap.size := by omega
  have HW4 := Lib.hid hW4; clear hW4
  clear kb1_0_3' kb1_1_3' kb1_2_3' kb1_3_3' kb1_4_3' kb1_5_3' kb1_6_3' kb1_7_3'
  refine (toActS_any A1 c1 l1 _ (Rd.later h1_0 hB4) hs1).mono ?_
  rintro e w4 ⟨A'4, c'4, rfl, ho0_4, hb4⟩
  try simp only [Vg.val]
  have ot3_0_4' := Row2.below ot3_0_4 hb4 (by omega)
  have ot3_1_4' := Row2.below ot3_1_4 hb4 (by omega)
  clear ot3_0_4 ot3_1_4
  obtain ⟨kb1_0_4', kb1_1_4', kb1_2_4', kb1_3_4', kb1_4_4', kb1_5_4', kb1_6_4', kb1_7_4'⟩ := keep8 hb4 (by show w.heap.size < _; omega) kb1_0_4 kb1_1_4 kb1_2_4 kb1_3_4 kb1_4_4 kb1_5_4 kb1_6_4 kb1_7_4
  have hB4' := hB4.trans (hb4.mono hB4.size)
  have hz4' : W4.heap.size ≤ w4.heap.size := hb4.size
  have hl_b1_4' : w.heap.size < w4.heap.size := by omega
  have ot4_0_n := Row2.born ho0_4
  clear kb1_0_4 kb1_1_4 kb1_2_4 kb1_3_4 kb1_4_4 kb1_5_4 kb1_6_4 kb1_7_4 ho0_4
  go_wp2_with fail
  first | refine name_world ?_ | refine name_wp ?_
  intro W5 hW5
  have hp5 : Below w4.heap.size w4 W5 := by rw [hW5]; repeat' (first | (with_reducible exact Below.refl _ _) | (with_reducible refine Below.alloc ?_ ?_ _) | (with_reducible refine Below.setCell ?_ ?_ _) | (with_reducible refine Below.drew ?_) | (simp; done) | (simp; omega))
  have ot3_0_5 := Row2.below ot3_0_4' hp5 (by omega)
  have ot3_1_5 := Row2.below ot3_1_4' hp5 (by omega)
  have ot4_0_5 := Row2.below ot4_0_n hp5 (by omega)
  clear ot3_0_4' ot3_1_4' ot4_0_n
  obtain ⟨kb1_0_5, kb1_1_5, kb1_2_5, kb1_3_5, kb1_4_5, kb1_5_5, kb1_6_5, kb1_7_5⟩ := keep8 hp5 (by show w.heap.size < _; omega) kb1_0_4' kb1_1_4' kb1_2_4' kb1_3_4' kb1_4_4' kb1_5_4' kb1_6_4' kb1_7_4'
  have hB5 := hB4'.trans (hp5.mono hB4'.size)
  have hz5 : w4.heap.size ≤ W5.heap.size := hp5.size
  have hl_b1_5 : w.heap.size < W5.heap.size := by omega
  have HW5 := Lib.hid hW5; clear hW5
  clear kb1_0_4' kb1_1_4' kb1_2_4' kb1_3_4' kb1_4_4' kb1_5_4' kb1_6_4' kb1_7_4'
  refine (RunActsS_any A'3 c'3 R'3 d'3 v0 A'4 c'4 l1 _ ot3_0_5.rd ot3_1_5.rd ot4_0_5.rd (by omega)).mono ?_
  rintro e w5 ⟨Ar0_5, cr0_5, Rr0_5, dr0_5, Ar1_5, cr1_5, rfl, lo_5, hi_5, lp_5, hq_5, hs1_5, hs2_5, hs3_5, hs4_5, hs5_5, ho0_5, ho1_5, ho2_5, hb5⟩
  try simp only [Vg.val]
  have ot3_0_5' := Row2.below ot3_0_5 hb5 (by omega)
  have ot3_1_5' := Row2.below ot3_1_5 hb5 (by omega)
  have ot4_0_5' := Row2.below ot4_0_5 hb5 (by omega)
  clear ot3_0_5 ot3_1_5 ot4_0_5
  obtain ⟨kb1_0_5', kb1_1_5', kb1_2_5', kb1_3_5', kb1_4_5', kb1_5_5', kb1_6_5', kb1_7_5'⟩ := keep8 hb5 (by show w.heap.size < _; omega) kb1_0_5 kb1_1_5 kb1_2_5 kb1_3_5 kb1_4_5 kb1_5_5 kb1_6_5 kb1_7_5
  have hB5' := hB5.trans (hb5.mono hB5.size)
  have hz5' : W5.heap.size ≤ w5.heap.size := hb5.size
  have hl_b1_5' : w.heap.size < w5.heap.size := by omega
  have ow0_5_0_n := ho0_5
  have ow0_5_1_n := ho1_5
  have ow1_5_0_n := ho2_5
  clear kb1_0_5 kb1_1_5 kb1_2_5 kb1_3_5 kb1_4_5 kb1_5_5 kb1_6_5 kb1_7_5 ho0_5 ho1_5 ho2_5
  go_wp2_with fail
  first | refine name_world ?_ | refine name_wp ?_
  intro W6 hW6
  have hp6 : Below w5.heap.size w5 W6 := by rw [hW6]; repeat' (first | (with_reducible exact Below.refl _ _) | (with_reducible refine Below.alloc ?_ ?_ _) | (with_reducible refine Below.setCell ?_ ?_ _) | (with_reducible refine Below.drew ?_) | (simp; done) | (simp; omega))
  have kb2_0_6 : W6.cell? ⟨w5.heap.size, 0, none⟩ = some (.int .i64 (runActs v0 l1).1.book.room) := by rw [hW6]; simp [go_sem]
  have kb2_1_6 : W6.cell? ⟨w5.heap.size, 1, none⟩ = some (.int .i64 (runActs v0 l1).1.book.start) := by rw [hW6]; simp [go_sem]
  have kb2_2_6 : W6.cell? ⟨w5.heap.size, 2, none⟩ = some (.slice Ar0_5 (runActs v0 l1).1.book.evs.length cr0_5) := by rw [hW6]; simp [go_sem]
  have kb2_3_6 : W6.cell? ⟨w5.heap.size, 3, none⟩ = some (.int .i64 (runActs v0 l1).1.book.level) := by rw [hW6]; simp [go_sem]
  have kb2_4_6 : W6.cell? ⟨w5.heap.size, 4, none⟩ = some (.int .i64 (runActs v0 l1).1.book.rained) := by rw [hW6]; simp [go_sem]
  have kb2_5_6 : W6.cell? ⟨w5.heap.size, 5, none⟩ = some (.int .i64 (runActs v0 l1).1.book.drunk) := by rw [hW6]; simp [go_sem]
  have kb2_6_6 : W6.cell? ⟨w5.heap.size, 6, none⟩ = some (.int .i64 (runActs v0 l1).1.book.lost) := by rw [hW6]; simp [go_sem]
  have kb2_7_6 : W6.cell? ⟨w5.heap.size, 7, none⟩ = some (.slice Rr0_5 (runActs v0 l1).1.rights.length dr0_5) := by rw [hW6]; simp [go_sem]
  have hl_b2 : w5.heap.size < W6.heap.size := by rw [hW6]; first | (simp; done) | (simp; omega)
  have ow0_5_0_6 := Row2.below ow0_5_0_n hp6 (by omega)
  have ow0_5_1_6 := Row2.below ow0_5_1_n hp6 (by omega)
  have ow1_5_0_6 := Row2.below ow1_5_0_n hp6 (by omega)
  clear ow0_5_0_n ow0_5_1_n ow1_5_0_n
  obtain ⟨kb1_0_6, kb1_1_6, kb1_2_6, kb1_3_6, kb1_4_6, kb1_5_6, kb1_6_6, kb1_7_6⟩ := keep8 hp6 (by show w.heap.size < _; omega) kb1_0_5' kb1_1_5' kb1_2_5' kb1_3_5' kb1_4_5' kb1_5_5' kb1_6_5' kb1_7_5'
  have hB6 := hB5'.trans (hp6.mono hB5'.size)
  have hz6 : w5.heap.size ≤ W6.heap.size := hp6.size
  have hl_b1_6 : w.heap.size < W6.heap.size := by omega
  have HW6 := Lib.hid hW6; clear hW6
  clear kb1_0_5' kb1_1_5' kb1_2_5' kb1_3_5' kb1_4_5' kb1_5_5' kb1_6_5' kb1_7_5'
  refine (toVillage_any A0 c0 R0 d0 v0 _ (Rd.later h0_0 hB6) (Rd.later h0_1 hB6) hs0).mono ?_
  rintro e w6 ⟨A'6, c'6, R'6, d'6, rfl, ho0_6, ho1_6, hb6⟩
  try simp only [Vg.val]
  have ow0_5_0_6' := Row2.below ow0_5_0_6 hb6 (by omega)
  have ow0_5_1_6' := Row2.below ow0_5_1_6 hb6 (by omega)
  have ow1_5_0_6' := Row2.below ow1_5_0_6 hb6 (by omega)
  clear ow0_5_0_6 ow0_5_1_6 ow1_5_0_6
  obtain ⟨kb1_0_6', kb1_1_6', kb1_2_6', kb1_3_6', kb1_4_6', kb1_5_6', kb1_6_6', kb1_7_6'⟩ := keep8 hb6 (by show w.heap.size < _; omega) kb1_0_6 kb1_1_6 kb1_2_6 kb1_3_6 kb1_4_6 kb1_5_6 kb1_6_6 kb1_7_6
  clear kb1_0_6 kb1_1_6 kb1_2_6 kb1_3_6 kb1_4_6 kb1_5_6 kb1_6_6 kb1_7_6
  obtain ⟨kb2_0_6', kb2_1_6', kb2_2_6', kb2_3_6', kb2_4_6', kb2_5_6', kb2_6_6', kb2_7_6'⟩ := keep8 hb6 (by show w5.heap.size < _; omega) kb2_0_6 kb2_1_6 kb2_2_6 kb2_3_6 kb2_4_6 kb2_5_6 kb2_6_6 kb2_7_6
  have hB6' := hB6.trans (hb6.mono hB6.size)
  have hz6' : W6.heap.size ≤ w6.heap.size := hb6.size
  have hl_b1_6' : w.heap.size < w6.heap.size := by omega
  have hl_b2_6' : w5.heap.size < w6.heap.size := by omega
  have ot6_0_n := Row2.born ho0_6
  have ot6_1_n := Row2.born ho1_6
  clear kb2_0_6 kb2_1_6 kb2_2_6 kb2_3_6 kb2_4_6 kb2_5_6 kb2_6_6 kb2_7_6 ho0_6 ho1_6
  go_wp2_with fail
  first | refine name_world ?_ | refine name_wp ?_
  intro W7 hW7
  have hp7 : Below w6.heap.size w6 W7 := by rw [hW7]; repeat' (first | (with_reducible exact Below.refl _ _) | (with_reducible refine Below.alloc ?_ ?_ _) | (with_reducible refine Below.setCell ?_ ?_ _) | (with_reducible refine Below.drew ?_) | (simp; done) | (simp; omega))
  have kb3_0_7 : W7.cell? ⟨w6.heap.size, 0, none⟩ = some (.int .i64 v0.book.room) := by rw [hW7]; simp [go_sem]
  have kb3_1_7 : W7.cell? ⟨w6.heap.size, 1, none⟩ = some (.int .i64 v0.book.start) := by rw [hW7]; simp [go_sem]
  have kb3_2_7 : W7.cell? ⟨w6.heap.size, 2, none⟩ = some (.slice A'6 v0.book.evs.length c'6) := by rw [hW7]; simp [go_sem]
  have kb3_3_7 : W7.cell? ⟨w6.heap.size, 3, none⟩ = some (.int .i64 v0.book.level) := by rw [hW7]; simp [go_sem]
  have kb3_4_7 : W7.cell? ⟨w6.heap.size, 4, none⟩ = some (.int .i64 v0.book.rained) := by rw [hW7]; simp [go_sem]
  have kb3_5_7 : W7.cell? ⟨w6.heap.size, 5, none⟩ = some (.int .i64 v0.book.drunk) := by rw [hW7]; simp [go_sem]
  have kb3_6_7 : W7.cell? ⟨w6.heap.size, 6, none⟩ = some (.int .i64 v0.book.lost) := by rw [hW7]; simp [go_sem]
  have kb3_7_7 : W7.cell? ⟨w6.heap.size, 7, none⟩ = some (.slice R'6 v0.rights.length d'6) := by rw [hW7]; simp [go_sem]
  have hl_b3 : w6.heap.size < W7.heap.size := by rw [hW7]; first | (simp; done) | (simp; omega)
  have ow0_5_0_7 := Row2.below ow0_5_0_6' hp7 (by omega)
  have ow0_5_1_7 := Row2.below ow0_5_1_6' hp7 (by omega)
  have ow1_5_0_7 := Row2.below ow1_5_0_6' hp7 (by omega)
  have ot6_0_7 := Row2.below ot6_0_n hp7 (by omega)
  have ot6_1_7 := Row2.below ot6_1_n hp7 (by omega)
  clear ow0_5_0_6' ow0_5_1_6' ow1_5_0_6' ot6_0_n ot6_1_n
  obtain ⟨kb1_0_7, kb1_1_7, kb1_2_7, kb1_3_7, kb1_4_7, kb1_5_7, kb1_6_7, kb1_7_7⟩ := keep8 hp7 (by show w.heap.size < _; omega) kb1_0_6' kb1_1_6' kb1_2_6' kb1_3_6' kb1_4_6' kb1_5_6' kb1_6_6' kb1_7_6'
  clear kb1_0_6' kb1_1_6' kb1_2_6' kb1_3_6' kb1_4_6' kb1_5_6' kb1_6_6' kb1_7_6'
  obtain ⟨kb2_0_7, kb2_1_7, kb2_2_7, kb2_3_7, kb2_4_7, kb2_5_7, kb2_6_7, kb2_7_7⟩ := keep8 hp7 (by show w5.heap.size < _; omega) kb2_0_6' kb2_1_6' kb2_2_6' kb2_3_6' kb2_4_6' kb2_5_6' kb2_6_6' kb2_7_6'
  have hB7 := hB6'.trans (hp7.mono hB6'.size)
  have hz7 : w6.heap.size ≤ W7.heap.size := hp7.size
  have hl_b1_7 : w.heap.size < W7.heap.size := by omega
  have hl_b2_7 : w5.heap.size < W7.heap.size := by omega
  have HW7 := Lib.hid hW7; clear hW7
  clear kb2_0_6' kb2_1_6' kb2_2_6' kb2_3_6' kb2_4_6' kb2_5_6' kb2_6_6' kb2_7_6'
  refine (toActS_any A1 c1 l1 _ (Rd.later h1_0 hB7) hs1).mono ?_
  rintro e w7 ⟨A'7, c'7, rfl, ho0_7, hb7⟩
  try simp only [Vg.val]
  have ow0_5_0_7' := Row2.below ow0_5_0_7 hb7 (by omega)
  have ow0_5_1_7' := Row2.below ow0_5_1_7 hb7 (by omega)
  have ow1_5_0_7' := Row2.below ow1_5_0_7 hb7 (by omega)
  have ot6_0_7' := Row2.below ot6_0_7 hb7 (by omega)
  have ot6_1_7' := Row2.below ot6_1_7 hb7 (by omega)
  clear ow0_5_0_7 ow0_5_1_7 ow1_5_0_7 ot6_0_7 ot6_1_7
  obtain ⟨kb1_0_7', kb1_1_7', kb1_2_7', kb1_3_7', kb1_4_7', kb1_5_7', kb1_6_7', kb1_7_7'⟩ := keep8 hb7 (by show w.heap.size < _; omega) kb1_0_7 kb1_1_7 kb1_2_7 kb1_3_7 kb1_4_7 kb1_5_7 kb1_6_7 kb1_7_7
  clear kb1_0_7 kb1_1_7 kb1_2_7 kb1_3_7 kb1_4_7 kb1_5_7 kb1_6_7 kb1_7_7
  obtain ⟨kb2_0_7', kb2_1_7', kb2_2_7', kb2_3_7', kb2_4_7', kb2_5_7', kb2_6_7', kb2_7_7'⟩ := keep8 hb7 (by show w5.heap.size < _; omega) kb2_0_7 kb2_1_7 kb2_2_7 kb2_3_7 kb2_4_7 kb2_5_7 kb2_6_7 kb2_7_7
  clear kb2_0_7 kb2_1_7 kb2_2_7 kb2_3_7 kb2_4_7 kb2_5_7 kb2_6_7 kb2_7_7
  obtain ⟨kb3_0_7', kb3_1_7', kb3_2_7', kb3_3_7', kb3_4_7', kb3_5_7', kb3_6_7', kb3_7_7'⟩ := keep8 hb7 (by show w6.heap.size < _; omega) kb3_0_7 kb3_1_7 kb3_2_7 kb3_3_7 kb3_4_7 kb3_5_7 kb3_6_7 kb3_7_7
  have hB7' := hB7.trans (hb7.mono hB7.size)
  have hz7' : W7.heap.size ≤ w7.heap.size := hb7.size
  have hl_b1_7' : w.heap.size < w7.heap.size := by omega
  have hl_b2_7' : w5.heap.size < w7.heap.size := by omega
  have hl_b3_7' : w6.heap.size < w7.heap.size := by omega
  have ot7_0_n := Row2.born ho0_7
  clear kb3_0_7 kb3_1_7 kb3_2_7 kb3_3_7 kb3_4_7 kb3_5_7 kb3_6_7 kb3_7_7 ho0_7
  go_wp2_with fail
  first | refine name_world ?_ | refine name_wp ?_
  intro W8 hW8
  have hp8 : Below w7.heap.size w7 W8 := by rw [hW8]; repeat' (first | (with_reducible exact Below.refl _ _) | (with_reducible refine Below.alloc ?_ ?_ _) | (with_reducible refine Below.setCell ?_ ?_ _) | (with_reducible refine Below.drew ?_) | (simp; done) | (simp; omega))
  have ow0_5_0_8 := Row2.below ow0_5_0_7' hp8 (by omega)
  have ow0_5_1_8 := Row2.below ow0_5_1_7' hp8 (by omega)
  have ow1_5_0_8 := Row2.below ow1_5_0_7' hp8 (by omega)
  have ot6_0_8 := Row2.below ot6_0_7' hp8 (by omega)
  have ot6_1_8 := Row2.below ot6_1_7' hp8 (by omega)
  have ot7_0_8 := Row2.below ot7_0_n hp8 (by omega)
  clear ow0_5_0_7' ow0_5_1_7' ow1_5_0_7' ot6_0_7' ot6_1_7' ot7_0_n
  obtain ⟨kb1_0_8, kb1_1_8, kb1_2_8, kb1_3_8, kb1_4_8, kb1_5_8, kb1_6_8, kb1_7_8⟩ := keep8 hp8 (by show w.heap.size < _; omega) kb1_0_7' kb1_1_7' kb1_2_7' kb1_3_7' kb1_4_7' kb1_5_7' kb1_6_7' kb1_7_7'
  clear kb1_0_7' kb1_1_7' kb1_2_7' kb1_3_7' kb1_4_7' kb1_5_7' kb1_6_7' kb1_7_7'
  obtain ⟨kb2_0_8, kb2_1_8, kb2_2_8, kb2_3_8, kb2_4_8, kb2_5_8, kb2_6_8, kb2_7_8⟩ := keep8 hp8 (by show w5.heap.size < _; omega) kb2_0_7' kb2_1_7' kb2_2_7' kb2_3_7' kb2_4_7' kb2_5_7' kb2_6_7' kb2_7_7'
  clear kb2_0_7' kb2_1_7' kb2_2_7' kb2_3_7' kb2_4_7' kb2_5_7' kb2_6_7' kb2_7_7'
  obtain ⟨kb3_0_8, kb3_1_8, kb3_2_8, kb3_3_8, kb3_4_8, kb3_5_8, kb3_6_8, kb3_7_8⟩ := keep8 hp8 (by show w6.heap.size < _; omega) kb3_0_7' kb3_1_7' kb3_2_7' kb3_3_7' kb3_4_7' kb3_5_7' kb3_6_7' kb3_7_7'
  have hB8 := hB7'.trans (hp8.mono hB7'.size)
  have hz8 : w7.heap.size ≤ W8.heap.size := hp8.size
  have hl_b1_8 : w.heap.size < W8.heap.size := by omega
  have hl_b2_8 : w5.heap.size < W8.heap.size := by omega
  have hl_b3_8 : w6.heap.size < W8.heap.size := by omega
  have HW8 := Lib.hid hW8; clear hW8
  clear kb3_0_7' kb3_1_7' kb3_2_7' kb3_3_7' kb3_4_7' kb3_5_7' kb3_6_7' kb3_7_7'
  refine (RunActs_any A'6 c'6 R'6 d'6 v0 A'7 c'7 l1 _ ot6_0_8.rd ot6_1_8.rd ot7_0_8.rd (by omega)).mono ?_
  rintro e w8 ⟨Ar0_8, cr0_8, Rr0_8, dr0_8, Ar1_8, cr1_8, rfl, lo_8, hi_8, lp_8, hq_8, hs1_8, hs2_8, hs3_8, hs4_8, hs5_8, ho0_8, ho1_8, ho2_8, hb8⟩
  try simp only [Vg.val]
  have ow0_5_0_8' := Row2.below ow0_5_0_8 hb8 (by omega)
  have ow0_5_1_8' := Row2.below ow0_5_1_8 hb8 (by omega)
  have ow1_5_0_8' := Row2.below ow1_5_0_8 hb8 (by omega)
  have ot6_0_8' := Row2.below ot6_0_8 hb8 (by omega)
  have ot6_1_8' := Row2.below ot6_1_8 hb8 (by omega)
  have ot7_0_8' := Row2.below ot7_0_8 hb8 (by omega)
  clear ow0_5_0_8 ow0_5_1_8 ow1_5_0_8 ot6_0_8 ot6_1_8 ot7_0_8
  obtain ⟨kb1_0_8', kb1_1_8', kb1_2_8', kb1_3_8', kb1_4_8', kb1_5_8', kb1_6_8', kb1_7_8'⟩ := keep8 hb8 (by show w.heap.size < _; omega) kb1_0_8 kb1_1_8 kb1_2_8 kb1_3_8 kb1_4_8 kb1_5_8 kb1_6_8 kb1_7_8
  clear kb1_0_8 kb1_1_8 kb1_2_8 kb1_3_8 kb1_4_8 kb1_5_8 kb1_6_8 kb1_7_8
  obtain ⟨kb2_0_8', kb2_1_8', kb2_2_8', kb2_3_8', kb2_4_8', kb2_5_8', kb2_6_8', kb2_7_8'⟩ := keep8 hb8 (by show w5.heap.size < _; omega) kb2_0_8 kb2_1_8 kb2_2_8 kb2_3_8 kb2_4_8 kb2_5_8 kb2_6_8 kb2_7_8
  clear kb2_0_8 kb2_1_8 kb2_2_8 kb2_3_8 kb2_4_8 kb2_5_8 kb2_6_8 kb2_7_8
  obtain ⟨kb3_0_8', kb3_1_8', kb3_2_8', kb3_3_8', kb3_4_8', kb3_5_8', kb3_6_8', kb3_7_8'⟩ := keep8 hb8 (by show w6.heap.size < _; omega) kb3_0_8 kb3_1_8 kb3_2_8 kb3_3_8 kb3_4_8 kb3_5_8 kb3_6_8 kb3_7_8
  have hB8' := hB8.trans (hb8.mono hB8.size)
  have hz8' : W8.heap.size ≤ w8.heap.size := hb8.size
  have hl_b1_8' : w.heap.size < w8.heap.size := by omega
  have hl_b2_8' : w5.heap.size < w8.heap.size := by omega
  have hl_b3_8' : w6.heap.size < w8.heap.size := by omega
  have og0_8_0_n := ho0_8
  have og0_8_1_n := ho1_8
  have og1_8_0_n := ho2_8
  clear kb3_0_8 kb3_1_8 kb3_2_8 kb3_3_8 kb3_4_8 kb3_5_8 kb3_6_8 kb3_7_8 ho0_8 ho1_8 ho2_8
  go_wp2_with fail
  first | refine name_world ?_ | refine name_wp ?_
  intro W9 hW9
  have hp9 : Below w8.heap.size w8 W9 := by rw [hW9]; repeat' (first | (with_reducible exact Below.refl _ _) | (with_reducible refine Below.alloc ?_ ?_ _) | (with_reducible refine Below.setCell ?_ ?_ _) | (with_reducible refine Below.drew ?_) | (simp; done) | (simp; omega))
  have kb4_0_9 : W9.cell? ⟨w8.heap.size, 0, none⟩ = some (.int .i64 (runActs v0 l1).1.book.room) := by rw [hW9]; simp [go_sem]
  have kb4_1_9 : W9.cell? ⟨w8.heap.size, 1, none⟩ = some (.int .i64 (runActs v0 l1).1.book.start) := by rw [hW9]; simp [go_sem]
  have kb4_2_9 : W9.cell? ⟨w8.heap.size, 2, none⟩ = some (.slice Ar0_8 (runActs v0 l1).1.book.evs.length cr0_8) := by rw [hW9]; simp [go_sem]
  have kb4_3_9 : W9.cell? ⟨w8.heap.size, 3, none⟩ = some (.int .i64 (runActs v0 l1).1.book.level) := by rw [hW9]; simp [go_sem]
  have kb4_4_9 : W9.cell? ⟨w8.heap.size, 4, none⟩ = some (.int .i64 (runActs v0 l1).1.book.rained) := by rw [hW9]; simp [go_sem]
  have kb4_5_9 : W9.cell? ⟨w8.heap.size, 5, none⟩ = some (.int .i64 (runActs v0 l1).1.book.drunk) := by rw [hW9]; simp [go_sem]
  have kb4_6_9 : W9.cell? ⟨w8.heap.size, 6, none⟩ = some (.int .i64 (runActs v0 l1).1.book.lost) := by rw [hW9]; simp [go_sem]
  have kb4_7_9 : W9.cell? ⟨w8.heap.size, 7, none⟩ = some (.slice Rr0_8 (runActs v0 l1).1.rights.length dr0_8) := by rw [hW9]; simp [go_sem]
  have hl_b4 : w8.heap.size < W9.heap.size := by rw [hW9]; first | (simp; done) | (simp; omega)
  have ow0_5_0_9 := Row2.below ow0_5_0_8' hp9 (by omega)
  have ow0_5_1_9 := Row2.below ow0_5_1_8' hp9 (by omega)
  have ow1_5_0_9 := Row2.below ow1_5_0_8' hp9 (by omega)
  have ot6_0_9 := Row2.below ot6_0_8' hp9 (by omega)
  have ot6_1_9 := Row2.below ot6_1_8' hp9 (by omega)
  have ot7_0_9 := Row2.below ot7_0_8' hp9 (by omega)
  have og0_8_0_9 := Row2.below og0_8_0_n hp9 (by omega)
  have og0_8_1_9 := Row2.below og0_8_1_n hp9 (by omega)
  have og1_8_0_9 := Row2.below og1_8_0_n hp9 (by omega)
  clear ow0_5_0_8' ow0_5_1_8' ow1_5_0_8' ot6_0_8' ot6_1_8' ot7_0_8' og0_8_0_n og0_8_1_n og1_8_0_n
  obtain ⟨kb1_0_9, kb1_1_9, kb1_2_9, kb1_3_9, kb1_4_9, kb1_5_9, kb1_6_9, kb1_7_9⟩ := keep8 hp9 (by show w.heap.size < _; omega) kb1_0_8' kb1_1_8' kb1_2_8' kb1_3_8' kb1_4_8' kb1_5_8' kb1_6_8' kb1_7_8'
  clear kb1_0_8' kb1_1_8' kb1_2_8' kb1_3_8' kb1_4_8' kb1_5_8' kb1_6_8' kb1_7_8'
  obtain ⟨kb2_0_9, kb2_1_9, kb2_2_9, kb2_3_9, kb2_4_9, kb2_5_9, kb2_6_9, kb2_7_9⟩ := keep8 hp9 (by show w5.heap.size < _; omega) kb2_0_8' kb2_1_8' kb2_2_8' kb2_3_8' kb2_4_8' kb2_5_8' kb2_6_8' kb2_7_8'
  clear kb2_0_8' kb2_1_8' kb2_2_8' kb2_3_8' kb2_4_8' kb2_5_8' kb2_6_8' kb2_7_8'
  obtain ⟨kb3_0_9, kb3_1_9, kb3_2_9, kb3_3_9, kb3_4_9, kb3_5_9, kb3_6_9, kb3_7_9⟩ := keep8 hp9 (by show w6.heap.size < _; omega) kb3_0_8' kb3_1_8' kb3_2_8' kb3_3_8' kb3_4_8' kb3_5_8' kb3_6_8' kb3_7_8'
  have hB9 := hB8'.trans (hp9.mono hB8'.size)
  have hz9 : w8.heap.size ≤ W9.heap.size := hp9.size
  have hl_b1_9 : w.heap.size < W9.heap.size := by omega
  have hl_b2_9 : w5.heap.size < W9.heap.size := by omega
  have hl_b3_9 : w6.heap.size < W9.heap.size := by omega
  have HW9 := Lib.hid hW9; clear hW9
  clear kb3_0_8' kb3_1_8' kb3_2_8' kb3_3_8' kb3_4_8' kb3_5_8' kb3_6_8' kb3_7_8'
  refine (eqVillage_same Ar0_8 cr0_8 Rr0_8 dr0_8 Ar0_5 cr0_5 Rr0_5 dr0_5 ((runActs v0 l1).1) _ og0_8_0_9.rd og0_8_1_9.rd ow0_5_0_9.rd ow0_5_1_9.rd).mono ?_
  rintro e w9 ⟨rfl, hb9⟩
  try simp only [Vg.val]
  have ow0_5_0_9' := Row2.below ow0_5_0_9 hb9 (by omega)
  have ow0_5_1_9' := Row2.below ow0_5_1_9 hb9 (by omega)
  have ow1_5_0_9' := Row2.below ow1_5_0_9 hb9 (by omega)
  have ot6_0_9' := Row2.below ot6_0_9 hb9 (by omega)
  have ot6_1_9' := Row2.below ot6_1_9 hb9 (by omega)
  have ot7_0_9' := Row2.below ot7_0_9 hb9 (by omega)
  have og0_8_0_9' := Row2.below og0_8_0_9 hb9 (by omega)
  have og0_8_1_9' := Row2.below og0_8_1_9 hb9 (by omega)
  have og1_8_0_9' := Row2.below og1_8_0_9 hb9 (by omega)
  clear ow0_5_0_9 ow0_5_1_9 ow1_5_0_9 ot6_0_9 ot6_1_9 ot7_0_9 og0_8_0_9 og0_8_1_9 og1_8_0_9
  obtain ⟨kb1_0_9', kb1_1_9', kb1_2_9', kb1_3_9', kb1_4_9', kb1_5_9', kb1_6_9', kb1_7_9'⟩ := keep8 hb9 (by show w.heap.size < _; omega) kb1_0_9 kb1_1_9 kb1_2_9 kb1_3_9 kb1_4_9 kb1_5_9 kb1_6_9 kb1_7_9
  clear kb1_0_9 kb1_1_9 kb1_2_9 kb1_3_9 kb1_4_9 kb1_5_9 kb1_6_9 kb1_7_9
  obtain ⟨kb2_0_9', kb2_1_9', kb2_2_9', kb2_3_9', kb2_4_9', kb2_5_9', kb2_6_9', kb2_7_9'⟩ := keep8 hb9 (by show w5.heap.size < _; omega) kb2_0_9 kb2_1_9 kb2_2_9 kb2_3_9 kb2_4_9 kb2_5_9 kb2_6_9 kb2_7_9
  clear kb2_0_9 kb2_1_9 kb2_2_9 kb2_3_9 kb2_4_9 kb2_5_9 kb2_6_9 kb2_7_9
  obtain ⟨kb3_0_9', kb3_1_9', kb3_2_9', kb3_3_9', kb3_4_9', kb3_5_9', kb3_6_9', kb3_7_9'⟩ := keep8 hb9 (by show w6.heap.size < _; omega) kb3_0_9 kb3_1_9 kb3_2_9 kb3_3_9 kb3_4_9 kb3_5_9 kb3_6_9 kb3_7_9
  clear kb3_0_9 kb3_1_9 kb3_2_9 kb3_3_9 kb3_4_9 kb3_5_9 kb3_6_9 kb3_7_9
  obtain ⟨kb4_0_9', kb4_1_9', kb4_2_9', kb4_3_9', kb4_4_9', kb4_5_9', kb4_6_9', kb4_7_9'⟩ := keep8 hb9 (by show w8.heap.size < _; omega) kb4_0_9 kb4_1_9 kb4_2_9 kb4_3_9 kb4_4_9 kb4_5_9 kb4_6_9 kb4_7_9
  have hB9' := hB9.trans (hb9.mono hB9.size)
  have hz9' : W9.heap.size ≤ w9.heap.size := hb9.size
  have hl_b1_9' : w.heap.size < w9.heap.size := by omega
  have hl_b2_9' : w5.heap.size < w9.heap.size := by omega
  have hl_b3_9' : w6.heap.size < w9.heap.size := by omega
  have hl_b4_9' : w8.heap.size < w9.heap.size := by omega
  clear kb4_0_9 kb4_1_9 kb4_2_9 kb4_3_9 kb4_4_9 kb4_5_9 kb4_6_9 kb4_7_9
  go_wp2_with fail
  first | refine name_world ?_ | refine name_wp ?_
  intro W10 hW10
  have hp10 : Below w9.heap.size w9 W10 := by rw [hW10]; repeat' (first | (with_reducible exact Below.refl _ _) | (with_reducible refine Below.alloc ?_ ?_ _) | (with_reducible refine Below.setCell ?_ ?_ _) | (with_reducible refine Below.drew ?_) | (simp; done) | (simp; omega))
  have ow0_5_0_10 := Row2.below ow0_5_0_9' hp10 (by omega)
  have ow0_5_1_10 := Row2.below ow0_5_1_9' hp10 (by omega)
  have ow1_5_0_10 := Row2.below ow1_5_0_9' hp10 (by omega)
  have ot6_0_10 := Row2.below ot6_0_9' hp10 (by omega)
  have ot6_1_10 := Row2.below ot6_1_9' hp10 (by omega)
  have ot7_0_10 := Row2.below ot7_0_9' hp10 (by omega)
  have og0_8_0_10 := Row2.below og0_8_0_9' hp10 (by omega)
  have og0_8_1_10 := Row2.below og0_8_1_9' hp10 (by omega)
  have og1_8_0_10 := Row2.below og1_8_0_9' hp10 (by omega)
  clear ow0_5_0_9' ow0_5_1_9' ow1_5_0_9' ot6_0_9' ot6_1_9' ot7_0_9' og0_8_0_9' og0_8_1_9' og1_8_0_9'
  obtain ⟨kb1_0_10, kb1_1_10, kb1_2_10, kb1_3_10, kb1_4_10, kb1_5_10, kb1_6_10, kb1_7_10⟩ := keep8 hp10 (by show w.heap.size < _; omega) kb1_0_9' kb1_1_9' kb1_2_9' kb1_3_9' kb1_4_9' kb1_5_9' kb1_6_9' kb1_7_9'
  clear kb1_0_9' kb1_1_9' kb1_2_9' kb1_3_9' kb1_4_9' kb1_5_9' kb1_6_9' kb1_7_9'
  obtain ⟨kb2_0_10, kb2_1_10, kb2_2_10, kb2_3_10, kb2_4_10, kb2_5_10, kb2_6_10, kb2_7_10⟩ := keep8 hp10 (by show w5.heap.size < _; omega) kb2_0_9' kb2_1_9' kb2_2_9' kb2_3_9' kb2_4_9' kb2_5_9' kb2_6_9' kb2_7_9'
  clear kb2_0_9' kb2_1_9' kb2_2_9' kb2_3_9' kb2_4_9' kb2_5_9' kb2_6_9' kb2_7_9'
  obtain ⟨kb3_0_10, kb3_1_10, kb3_2_10, kb3_3_10, kb3_4_10, kb3_5_10, kb3_6_10, kb3_7_10⟩ := keep8 hp10 (by show w6.heap.size < _; omega) kb3_0_9' kb3_1_9' kb3_2_9' kb3_3_9' kb3_4_9' kb3_5_9' kb3_6_9' kb3_7_9'
  clear kb3_0_9' kb3_1_9' kb3_2_9' kb3_3_9' kb3_4_9' kb3_5_9' kb3_6_9' kb3_7_9'
  obtain ⟨kb4_0_10, kb4_1_10, kb4_2_10, kb4_3_10, kb4_4_10, kb4_5_10, kb4_6_10, kb4_7_10⟩ := keep8 hp10 (by show w8.heap.size < _; omega) kb4_0_9' kb4_1_9' kb4_2_9' kb4_3_9' kb4_4_9' kb4_5_9' kb4_6_9' kb4_7_9'
  have hB10 := hB9'.trans (hp10.mono hB9'.size)
  have hz10 : w9.heap.size ≤ W10.heap.size := hp10.size
  have hl_b1_10 : w.heap.size < W10.heap.size := by omega
  have hl_b2_10 : w5.heap.size < W10.heap.size := by omega
  have hl_b3_10 : w6.heap.size < W10.heap.size := by omega
  have hl_b4_10 : w8.heap.size < W10.heap.size := by omega
  have HW10 := Lib.hid hW10; clear hW10
  clear kb4_0_9' kb4_1_9' kb4_2_9' kb4_3_9' kb4_4_9' kb4_5_9' kb4_6_9' kb4_7_9'
  refine (eqIntS_same Ar1_8 cr1_8 Ar1_5 cr1_5 ((runActs v0 l1).2) _ og1_8_0_10.rd ow1_5_0_10.rd).mono ?_
  rintro e w10 ⟨rfl, hb10⟩
  try simp only [Vg.val]
  have ow0_5_0_10' := Row2.below ow0_5_0_10 hb10 (by omega)
  have ow0_5_1_10' := Row2.below ow0_5_1_10 hb10 (by omega)
  have ow1_5_0_10' := Row2.below ow1_5_0_10 hb10 (by omega)
  have ot6_0_10' := Row2.below ot6_0_10 hb10 (by omega)
  have ot6_1_10' := Row2.below ot6_1_10 hb10 (by omega)
  have ot7_0_10' := Row2.below ot7_0_10 hb10 (by omega)
  have og0_8_0_10' := Row2.below og0_8_0_10 hb10 (by omega)
  have og0_8_1_10' := Row2.below og0_8_1_10 hb10 (by omega)
  have og1_8_0_10' := Row2.below og1_8_0_10 hb10 (by omega)
  clear ow0_5_0_10 ow0_5_1_10 ow1_5_0_10 ot6_0_10 ot6_1_10 ot7_0_10 og0_8_0_10 og0_8_1_10 og1_8_0_10
  obtain ⟨kb1_0_10', kb1_1_10', kb1_2_10', kb1_3_10', kb1_4_10', kb1_5_10', kb1_6_10', kb1_7_10'⟩ := keep8 hb10 (by show w.heap.size < _; omega) kb1_0_10 kb1_1_10 kb1_2_10 kb1_3_10 kb1_4_10 kb1_5_10 kb1_6_10 kb1_7_10
  clear kb1_0_10 kb1_1_10 kb1_2_10 kb1_3_10 kb1_4_10 kb1_5_10 kb1_6_10 kb1_7_10
  obtain ⟨kb2_0_10', kb2_1_10', kb2_2_10', kb2_3_10', kb2_4_10', kb2_5_10', kb2_6_10', kb2_7_10'⟩ := keep8 hb10 (by show w5.heap.size < _; omega) kb2_0_10 kb2_1_10 kb2_2_10 kb2_3_10 kb2_4_10 kb2_5_10 kb2_6_10 kb2_7_10
  clear kb2_0_10 kb2_1_10 kb2_2_10 kb2_3_10 kb2_4_10 kb2_5_10 kb2_6_10 kb2_7_10
  obtain ⟨kb3_0_10', kb3_1_10', kb3_2_10', kb3_3_10', kb3_4_10', kb3_5_10', kb3_6_10', kb3_7_10'⟩ := keep8 hb10 (by show w6.heap.size < _; omega) kb3_0_10 kb3_1_10 kb3_2_10 kb3_3_10 kb3_4_10 kb3_5_10 kb3_6_10 kb3_7_10
  clear kb3_0_10 kb3_1_10 kb3_2_10 kb3_3_10 kb3_4_10 kb3_5_10 kb3_6_10 kb3_7_10
  obtain ⟨kb4_0_10', kb4_1_10', kb4_2_10', kb4_3_10', kb4_4_10', kb4_5_10', kb4_6_10', kb4_7_10'⟩ := keep8 hb10 (by show w8.heap.size < _; omega) kb4_0_10 kb4_1_10 kb4_2_10 kb4_3_10 kb4_4_10 kb4_5_10 kb4_6_10 kb4_7_10
  have hB10' := hB10.trans (hb10.mono hB10.size)
  have hz10' : W10.heap.size ≤ w10.heap.size := hb10.size
  have hl_b1_10' : w.heap.size < w10.heap.size := by omega
  have hl_b2_10' : w5.heap.size < w10.heap.size := by omega
  have hl_b3_10' : w6.heap.size < w10.heap.size := by omega
  have hl_b4_10' : w8.heap.size < w10.heap.size := by omega
  clear kb4_0_10 kb4_1_10 kb4_2_10 kb4_3_10 kb4_4_10 kb4_5_10 kb4_6_10 kb4_7_10
  go_wp2_with fail
  go_region_held3 (fun w' => w'.cell? ⟨w6.heap.size, 0, none⟩ = some (.int .i64 v0.book.room) ∧ w'.cell? ⟨w6.heap.size, 1, none⟩ = some (.int .i64 v0.book.start) ∧ w'.cell? ⟨w6.heap.size, 2, none⟩ = some (.slice A'6 v0.book.evs.length c'6) ∧ w'.cell? ⟨w6.heap.size, 3, none⟩ = some (.int .i64 v0.book.level) ∧ w'.cell? ⟨w6.heap.size, 4, none⟩ = some (.int .i64 v0.book.rained) ∧ w'.cell? ⟨w6.heap.size, 5, none⟩ = some (.int .i64 v0.book.drunk) ∧ w'.cell? ⟨w6.heap.size, 6, none⟩ = some (.int .i64 v0.book.lost) ∧ w'.cell? ⟨w6.heap.size, 7, none⟩ = some (.slice R'6 v0.rights.length d'6) ∧ w'.cell? ⟨w.heap.size, 0, none⟩ = some (.int .i64 v0.book.room) ∧ w'.cell? ⟨w.heap.size, 1, none⟩ = some (.int .i64 v0.book.start) ∧ w'.cell? ⟨w.heap.size, 2, none⟩ = some (.slice A0 v0.book.evs.length c0) ∧ w'.cell? ⟨w.heap.size, 3, none⟩ = some (.int .i64 v0.book.level) ∧ w'.cell? ⟨w.heap.size, 4, none⟩ = some (.int .i64 v0.book.rained) ∧ w'.cell? ⟨w.heap.size, 5, none⟩ = some (.int .i64 v0.book.drunk) ∧ w'.cell? ⟨w.heap.size, 6, none⟩ = some (.int .i64 v0.book.lost) ∧ w'.cell? ⟨w.heap.size, 7, none⟩ = some (.slice R0 v0.rights.length d0)) (first | (with_reducible exact ⟨sa0_11, sa1_11, sa2_11, sa3_11, sa4_11, sa5_11, sa6_11, sa7_11, sa8_11, sa9_11, sa10_11, sa11_11, sa12_11, sa13_11, sa14_11, sa15_11⟩) | (with_reducible exact ⟨sb0_12, sb1_12, sb2_12, sb3_12, sb4_12, sb5_12, sb6_12, sb7_12, sb8_12, sb9_12, sb10_12, sb11_12, sb12_12, sb13_12, sb14_12, sb15_12⟩) | exact ⟨kb3_0_10', kb3_1_10', kb3_2_10', kb3_3_10', kb3_4_10', kb3_5_10', kb3_6_10', kb3_7_10', kb1_0_10', kb1_1_10', kb1_2_10', kb1_3_10', kb1_4_10', kb1_5_10', kb1_6_10', kb1_7_10'⟩)
    (first | (go_at_call 8; refine (toVillage_any A0 c0 R0 d0 v0 _ (Rd.later h0_0 hB10'.drew) (Rd.later h0_1 hB10'.drew) hs0).mono ?_; rintro e w11 ⟨A'11, c'11, R'11, d'11, rfl, ho0_11, ho1_11, hb11⟩; try simp only [Vg.val]; have sa0_11 := (hb11.cell (p := ⟨w6.heap.size, 0, none⟩) (by show w6.heap.size < w10.heap.size; omega)).trans kb3_0_10'; have sa1_11 := (hb11.cell (p := ⟨w6.heap.size, 1, none⟩) (by show w6.heap.size < w10.heap.size; omega)).trans kb3_1_10'; have sa2_11 := (hb11.cell (p := ⟨w6.heap.size, 2, none⟩) (by show w6.heap.size < w10.heap.size; omega)).trans kb3_2_10'; have sa3_11 := (hb11.cell (p := ⟨w6.heap.size, 3, none⟩) (by show w6.heap.size < w10.heap.size; omega)).trans kb3_3_10'; have sa4_11 := (hb11.cell (p := ⟨w6.heap.size, 4, none⟩) (by show w6.heap.size < w10.heap.size; omega)).trans kb3_4_10'; have sa5_11 := (hb11.cell (p := ⟨w6.heap.size, 5, none⟩) (by show w6.heap.size < w10.heap.size; omega)).trans kb3_5_10'; have sa6_11 := (hb11.cell (p := ⟨w6.heap.size, 6, none⟩) (by show w6.heap.size < w10.heap.size; omega)).trans kb3_6_10'; have sa7_11 := (hb11.cell (p := ⟨w6.heap.size, 7, none⟩) (by show w6.heap.size < w10.heap.size; omega)).trans kb3_7_10'; have sa8_11 := (hb11.cell (p := ⟨w.heap.size, 0, none⟩) (by show w.heap.size < w10.heap.size; omega)).trans kb1_0_10'; have sa9_11 := (hb11.cell (p := ⟨w.heap.size, 1, none⟩) (by show w.heap.size < w10.heap.size; omega)).trans kb1_1_10'; have sa10_11 := (hb11.cell (p := ⟨w.heap.size, 2, none⟩) (by show w.heap.size < w10.heap.size; omega)).trans kb1_2_10'; have sa11_11 := (hb11.cell (p := ⟨w.heap.size, 3, none⟩) (by show w.heap.size < w10.heap.size; omega)).trans kb1_3_10'; have sa12_11 := (hb11.cell (p := ⟨w.heap.size, 4, none⟩) (by show w.heap.size < w10.heap.size; omega)).trans kb1_4_10'; have sa13_11 := (hb11.cell (p := ⟨w.heap.size, 5, none⟩) (by show w.heap.size < w10.heap.size; omega)).trans kb1_5_10'; have sa14_11 := (hb11.cell (p := ⟨w.heap.size, 6, none⟩) (by show w.heap.size < w10.heap.size; omega)).trans kb1_6_10'; have sa15_11 := (hb11.cell (p := ⟨w.heap.size, 7, none⟩) (by show w.heap.size < w10.heap.size; omega)).trans kb1_7_10') | (go_at_call 11; refine (eqVillage_same A'6 c'6 R'6 d'6 A'11 c'11 R'11 d'11 (v0) _ (Row2.below (Row2.drew ot6_0_10') hb11 (by show _ ≤ w10.heap.size; omega)).rd (Row2.below (Row2.drew ot6_1_10') hb11 (by show _ ≤ w10.heap.size; omega)).rd (Row2.born ho0_11).rd (Row2.born ho1_11).rd).mono ?_; rintro e w12 ⟨rfl, hb12⟩; have sb0_12 := (hb12.cell (p := ⟨w6.heap.size, 0, none⟩) (by show w6.heap.size < _; have := hb11.size; have : w10.heap.size ≤ w11.heap.size := this; omega)).trans sa0_11; have sb1_12 := (hb12.cell (p := ⟨w6.heap.size, 1, none⟩) (by show w6.heap.size < _; have := hb11.size; have : w10.heap.size ≤ w11.heap.size := this; omega)).trans sa1_11; have sb2_12 := (hb12.cell (p := ⟨w6.heap.size, 2, none⟩) (by show w6.heap.size < _; have := hb11.size; have : w10.heap.size ≤ w11.heap.size := this; omega)).trans sa2_11; have sb3_12 := (hb12.cell (p := ⟨w6.heap.size, 3, none⟩) (by show w6.heap.size < _; have := hb11.size; have : w10.heap.size ≤ w11.heap.size := this; omega)).trans sa3_11; have sb4_12 := (hb12.cell (p := ⟨w6.heap.size, 4, none⟩) (by show w6.heap.size < _; have := hb11.size; have : w10.heap.size ≤ w11.heap.size := this; omega)).trans sa4_11; have sb5_12 := (hb12.cell (p := ⟨w6.heap.size, 5, none⟩) (by show w6.heap.size < _; have := hb11.size; have : w10.heap.size ≤ w11.heap.size := this; omega)).trans sa5_11; have sb6_12 := (hb12.cell (p := ⟨w6.heap.size, 6, none⟩) (by show w6.heap.size < _; have := hb11.size; have : w10.heap.size ≤ w11.heap.size := this; omega)).trans sa6_11; have sb7_12 := (hb12.cell (p := ⟨w6.heap.size, 7, none⟩) (by show w6.heap.size < _; have := hb11.size; have : w10.heap.size ≤ w11.heap.size := this; omega)).trans sa7_11; have sb8_12 := (hb12.cell (p := ⟨w.heap.size, 0, none⟩) (by show w.heap.size < _; have := hb11.size; have : w10.heap.size ≤ w11.heap.size := this; omega)).trans sa8_11; have sb9_12 := (hb12.cell (p := ⟨w.heap.size, 1, none⟩) (by show w.heap.size < _; have := hb11.size; have : w10.heap.size ≤ w11.heap.size := this; omega)).trans sa9_11; have sb10_12 := (hb12.cell (p := ⟨w.heap.size, 2, none⟩) (by show w.heap.size < _; have := hb11.size; have : w10.heap.size ≤ w11.heap.size := this; omega)).trans sa10_11; have sb11_12 := (hb12.cell (p := ⟨w.heap.size, 3, none⟩) (by show w.heap.size < _; have := hb11.size; have : w10.heap.size ≤ w11.heap.size := this; omega)).trans sa11_11; have sb12_12 := (hb12.cell (p := ⟨w.heap.size, 4, none⟩) (by show w.heap.size < _; have := hb11.size; have : w10.heap.size ≤ w11.heap.size := this; omega)).trans sa12_11; have sb13_12 := (hb12.cell (p := ⟨w.heap.size, 5, none⟩) (by show w.heap.size < _; have := hb11.size; have : w10.heap.size ≤ w11.heap.size := this; omega)).trans sa13_11; have sb14_12 := (hb12.cell (p := ⟨w.heap.size, 6, none⟩) (by show w.heap.size < _; have := hb11.size; have : w10.heap.size ≤ w11.heap.size := this; omega)).trans sa14_11; have sb15_12 := (hb12.cell (p := ⟨w.heap.size, 7, none⟩) (by show w.heap.size < _; have := hb11.size; have : w10.heap.size ≤ w11.heap.size := this; omega)).trans sa15_11))
  have hb11d := below_of_drew hb11
  have ow0_5_0_11' := Row2.below ow0_5_0_10' hb11d (by omega)
  have ow0_5_1_11' := Row2.below ow0_5_1_10' hb11d (by omega)
  have ow1_5_0_11' := Row2.below ow1_5_0_10' hb11d (by omega)
  have ot6_0_11' := Row2.below ot6_0_10' hb11d (by omega)
  have ot6_1_11' := Row2.below ot6_1_10' hb11d (by omega)
  have ot7_0_11' := Row2.below ot7_0_10' hb11d (by omega)
  have og0_8_0_11' := Row2.below og0_8_0_10' hb11d (by omega)
  have og0_8_1_11' := Row2.below og0_8_1_10' hb11d (by omega)
  have og1_8_0_11' := Row2.below og1_8_0_10' hb11d (by omega)
  clear sa0_11 sb0_12 sa1_11 sb1_12 sa2_11 sb2_12 sa3_11 sb3_12 sa4_11 sb4_12 sa5_11 sb5_12 sa6_11 sb6_12 sa7_11 sb7_12 sa8_11 sb8_12 sa9_11 sb9_12 sa10_11 sb10_12 sa11_11 sb11_12 sa12_11 sb12_12 sa13_11 sb13_12 sa14_11 sb14_12 sa15_11 sb15_12 ow0_5_0_10' ow0_5_1_10' ow1_5_0_10' ot6_0_10' ot6_1_10' ot7_0_10' og0_8_0_10' og0_8_1_10' og1_8_0_10'
  obtain ⟨kb1_0_11', kb1_1_11', kb1_2_11', kb1_3_11', kb1_4_11', kb1_5_11', kb1_6_11', kb1_7_11'⟩ := keep8 hb11d (by show w.heap.size < _; omega) kb1_0_10' kb1_1_10' kb1_2_10' kb1_3_10' kb1_4_10' kb1_5_10' kb1_6_10' kb1_7_10'
  clear kb1_0_10' kb1_1_10' kb1_2_10' kb1_3_10' kb1_4_10' kb1_5_10' kb1_6_10' kb1_7_10'
  obtain ⟨kb2_0_11', kb2_1_11', kb2_2_11', kb2_3_11', kb2_4_11', kb2_5_11', kb2_6_11', kb2_7_11'⟩ := keep8 hb11d (by show w5.heap.size < _; omega) kb2_0_10' kb2_1_10' kb2_2_10' kb2_3_10' kb2_4_10' kb2_5_10' kb2_6_10' kb2_7_10'
  clear kb2_0_10' kb2_1_10' kb2_2_10' kb2_3_10' kb2_4_10' kb2_5_10' kb2_6_10' kb2_7_10'
  obtain ⟨kb3_0_11', kb3_1_11', kb3_2_11', kb3_3_11', kb3_4_11', kb3_5_11', kb3_6_11', kb3_7_11'⟩ := keep8 hb11d (by show w6.heap.size < _; omega) kb3_0_10' kb3_1_10' kb3_2_10' kb3_3_10' kb3_4_10' kb3_5_10' kb3_6_10' kb3_7_10'
  clear kb3_0_10' kb3_1_10' kb3_2_10' kb3_3_10' kb3_4_10' kb3_5_10' kb3_6_10' kb3_7_10'
  obtain ⟨kb4_0_11', kb4_1_11', kb4_2_11', kb4_3_11', kb4_4_11', kb4_5_11', kb4_6_11', kb4_7_11'⟩ := keep8 hb11d (by show w8.heap.size < _; omega) kb4_0_10' kb4_1_10' kb4_2_10' kb4_3_10' kb4_4_10' kb4_5_10' kb4_6_10' kb4_7_10'
  have hB11' := hB10'.trans (hb11d.mono hB10'.size)
  have hz11' : w10.heap.size ≤ w11.heap.size := hb11d.size
  have hl_b1_11' : w.heap.size < w11.heap.size := by omega
  have hl_b2_11' : w5.heap.size < w11.heap.size := by omega
  have hl_b3_11' : w6.heap.size < w11.heap.size := by omega
  have hl_b4_11' : w8.heap.size < w11.heap.size := by omega
  have ow0_5_0_12' := Row2.below ow0_5_0_11' hb12 (by omega)
  have ow0_5_1_12' := Row2.below ow0_5_1_11' hb12 (by omega)
  have ow1_5_0_12' := Row2.below ow1_5_0_11' hb12 (by omega)
  have ot6_0_12' := Row2.below ot6_0_11' hb12 (by omega)
  have ot6_1_12' := Row2.below ot6_1_11' hb12 (by omega)
  have ot7_0_12' := Row2.below ot7_0_11' hb12 (by omega)
  have og0_8_0_12' := Row2.below og0_8_0_11' hb12 (by omega)
  have og0_8_1_12' := Row2.below og0_8_1_11' hb12 (by omega)
  have og1_8_0_12' := Row2.below og1_8_0_11' hb12 (by omega)
  clear kb4_0_10' kb4_1_10' kb4_2_10' kb4_3_10' kb4_4_10' kb4_5_10' kb4_6_10' kb4_7_10' ow0_5_0_11' ow0_5_1_11' ow1_5_0_11' ot6_0_11' ot6_1_11' ot7_0_11' og0_8_0_11' og0_8_1_11' og1_8_0_11'
  obtain ⟨kb1_0_12', kb1_1_12', kb1_2_12', kb1_3_12', kb1_4_12', kb1_5_12', kb1_6_12', kb1_7_12'⟩ := keep8 hb12 (by show w.heap.size < _; omega) kb1_0_11' kb1_1_11' kb1_2_11' kb1_3_11' kb1_4_11' kb1_5_11' kb1_6_11' kb1_7_11'
  clear kb1_0_11' kb1_1_11' kb1_2_11' kb1_3_11' kb1_4_11' kb1_5_11' kb1_6_11' kb1_7_11'
  obtain ⟨kb2_0_12', kb2_1_12', kb2_2_12', kb2_3_12', kb2_4_12', kb2_5_12', kb2_6_12', kb2_7_12'⟩ := keep8 hb12 (by show w5.heap.size < _; omega) kb2_0_11' kb2_1_11' kb2_2_11' kb2_3_11' kb2_4_11' kb2_5_11' kb2_6_11' kb2_7_11'
  clear kb2_0_11' kb2_1_11' kb2_2_11' kb2_3_11' kb2_4_11' kb2_5_11' kb2_6_11' kb2_7_11'
  obtain ⟨kb3_0_12', kb3_1_12', kb3_2_12', kb3_3_12', kb3_4_12', kb3_5_12', kb3_6_12', kb3_7_12'⟩ := keep8 hb12 (by show w6.heap.size < _; omega) kb3_0_11' kb3_1_11' kb3_2_11' kb3_3_11' kb3_4_11' kb3_5_11' kb3_6_11' kb3_7_11'
  clear kb3_0_11' kb3_1_11' kb3_2_11' kb3_3_11' kb3_4_11' kb3_5_11' kb3_6_11' kb3_7_11'
  obtain ⟨kb4_0_12', kb4_1_12', kb4_2_12', kb4_3_12', kb4_4_12', kb4_5_12', kb4_6_12', kb4_7_12'⟩ := keep8 hb12 (by show w8.heap.size < _; omega) kb4_0_11' kb4_1_11' kb4_2_11' kb4_3_11' kb4_4_11' kb4_5_11' kb4_6_11' kb4_7_11'
  have hB12' := hB11'.trans (hb12.mono hB11'.size)
  have hz12' : w11.heap.size ≤ w12.heap.size := hb12.size
  have hl_b1_12' : w.heap.size < w12.heap.size := by omega
  have hl_b2_12' : w5.heap.size < w12.heap.size := by omega
  have hl_b3_12' : w6.heap.size < w12.heap.size := by omega
  have hl_b4_12' : w8.heap.size < w12.heap.size := by omega
  clear kb4_0_11' kb4_1_11' kb4_2_11' kb4_3_11' kb4_4_11' kb4_5_11' kb4_6_11' kb4_7_11' ho0_11 ho1_11
  go_wp2_with fail
  first | refine name_world ?_ | refine name_wp ?_
  intro W13 hW13
  have hp13 : Below w12.heap.size w12 W13 := by rw [hW13]; repeat' (first | (with_reducible exact Below.refl _ _) | (with_reducible refine Below.alloc ?_ ?_ _) | (with_reducible refine Below.setCell ?_ ?_ _) | (with_reducible refine Below.drew ?_) | (simp; done) | (simp; omega))
  have ow0_5_0_13 := Row2.below ow0_5_0_12' hp13 (by omega)
  have ow0_5_1_13 := Row2.below ow0_5_1_12' hp13 (by omega)
  have ow1_5_0_13 := Row2.below ow1_5_0_12' hp13 (by omega)
  have ot6_0_13 := Row2.below ot6_0_12' hp13 (by omega)
  have ot6_1_13 := Row2.below ot6_1_12' hp13 (by omega)
  have ot7_0_13 := Row2.below ot7_0_12' hp13 (by omega)
  have og0_8_0_13 := Row2.below og0_8_0_12' hp13 (by omega)
  have og0_8_1_13 := Row2.below og0_8_1_12' hp13 (by omega)
  have og1_8_0_13 := Row2.below og1_8_0_12' hp13 (by omega)
  clear ow0_5_0_12' ow0_5_1_12' ow1_5_0_12' ot6_0_12' ot6_1_12' ot7_0_12' og0_8_0_12' og0_8_1_12' og1_8_0_12'
  obtain ⟨kb1_0_13, kb1_1_13, kb1_2_13, kb1_3_13, kb1_4_13, kb1_5_13, kb1_6_13, kb1_7_13⟩ := keep8 hp13 (by show w.heap.size < _; omega) kb1_0_12' kb1_1_12' kb1_2_12' kb1_3_12' kb1_4_12' kb1_5_12' kb1_6_12' kb1_7_12'
  clear kb1_0_12' kb1_1_12' kb1_2_12' kb1_3_12' kb1_4_12' kb1_5_12' kb1_6_12' kb1_7_12'
  obtain ⟨kb2_0_13, kb2_1_13, kb2_2_13, kb2_3_13, kb2_4_13, kb2_5_13, kb2_6_13, kb2_7_13⟩ := keep8 hp13 (by show w5.heap.size < _; omega) kb2_0_12' kb2_1_12' kb2_2_12' kb2_3_12' kb2_4_12' kb2_5_12' kb2_6_12' kb2_7_12'
  clear kb2_0_12' kb2_1_12' kb2_2_12' kb2_3_12' kb2_4_12' kb2_5_12' kb2_6_12' kb2_7_12'
  obtain ⟨kb3_0_13, kb3_1_13, kb3_2_13, kb3_3_13, kb3_4_13, kb3_5_13, kb3_6_13, kb3_7_13⟩ := keep8 hp13 (by show w6.heap.size < _; omega) kb3_0_12' kb3_1_12' kb3_2_12' kb3_3_12' kb3_4_12' kb3_5_12' kb3_6_12' kb3_7_12'
  clear kb3_0_12' kb3_1_12' kb3_2_12' kb3_3_12' kb3_4_12' kb3_5_12' kb3_6_12' kb3_7_12'
  obtain ⟨kb4_0_13, kb4_1_13, kb4_2_13, kb4_3_13, kb4_4_13, kb4_5_13, kb4_6_13, kb4_7_13⟩ := keep8 hp13 (by show w8.heap.size < _; omega) kb4_0_12' kb4_1_12' kb4_2_12' kb4_3_12' kb4_4_12' kb4_5_12' kb4_6_12' kb4_7_12'
  have hB13 := hB12'.trans (hp13.mono hB12'.size)
  have hz13 : w12.heap.size ≤ W13.heap.size := hp13.size
  have hl_b1_13 : w.heap.size < W13.heap.size := by omega
  have hl_b2_13 : w5.heap.size < W13.heap.size := by omega
  have hl_b3_13 : w6.heap.size < W13.heap.size := by omega
  have hl_b4_13 : w8.heap.size < W13.heap.size := by omega
  have HW13 := Lib.hid hW13; clear hW13
  clear kb4_0_12' kb4_1_12' kb4_2_12' kb4_3_12' kb4_4_12' kb4_5_12' kb4_6_12' kb4_7_12'
  refine (toActS_any A1 c1 l1 _ (Rd.later h1_0 hB13) hs1).mono ?_
  rintro e w13 ⟨A'13, c'13, rfl, ho0_13, hb13⟩
  try simp only [Vg.val]
  have ow0_5_0_13' := Row2.below ow0_5_0_13 hb13 (by omega)
  have ow0_5_1_13' := Row2.below ow0_5_1_13 hb13 (by omega)
  have ow1_5_0_13' := Row2.below ow1_5_0_13 hb13 (by omega)
  have ot6_0_13' := Row2.below ot6_0_13 hb13 (by omega)
  have ot6_1_13' := Row2.below ot6_1_13 hb13 (by omega)
  have ot7_0_13' := Row2.below ot7_0_13 hb13 (by omega)
  have og0_8_0_13' := Row2.below og0_8_0_13 hb13 (by omega)
  have og0_8_1_13' := Row2.below og0_8_1_13 hb13 (by omega)
  have og1_8_0_13' := Row2.below og1_8_0_13 hb13 (by omega)
  clear ow0_5_0_13 ow0_5_1_13 ow1_5_0_13 ot6_0_13 ot6_1_13 ot7_0_13 og0_8_0_13 og0_8_1_13 og1_8_0_13
  obtain ⟨kb1_0_13', kb1_1_13', kb1_2_13', kb1_3_13', kb1_4_13', kb1_5_13', kb1_6_13', kb1_7_13'⟩ := keep8 hb13 (by show w.heap.size < _; omega) kb1_0_13 kb1_1_13 kb1_2_13 kb1_3_13 kb1_4_13 kb1_5_13 kb1_6_13 kb1_7_13
  clear kb1_0_13 kb1_1_13 kb1_2_13 kb1_3_13 kb1_4_13 kb1_5_13 kb1_6_13 kb1_7_13
  obtain ⟨kb2_0_13', kb2_1_13', kb2_2_13', kb2_3_13', kb2_4_13', kb2_5_13', kb2_6_13', kb2_7_13'⟩ := keep8 hb13 (by show w5.heap.size < _; omega) kb2_0_13 kb2_1_13 kb2_2_13 kb2_3_13 kb2_4_13 kb2_5_13 kb2_6_13 kb2_7_13
  clear kb2_0_13 kb2_1_13 kb2_2_13 kb2_3_13 kb2_4_13 kb2_5_13 kb2_6_13 kb2_7_13
  obtain ⟨kb3_0_13', kb3_1_13', kb3_2_13', kb3_3_13', kb3_4_13', kb3_5_13', kb3_6_13', kb3_7_13'⟩ := keep8 hb13 (by show w6.heap.size < _; omega) kb3_0_13 kb3_1_13 kb3_2_13 kb3_3_13 kb3_4_13 kb3_5_13 kb3_6_13 kb3_7_13
  clear kb3_0_13 kb3_1_13 kb3_2_13 kb3_3_13 kb3_4_13 kb3_5_13 kb3_6_13 kb3_7_13
  obtain ⟨kb4_0_13', kb4_1_13', kb4_2_13', kb4_3_13', kb4_4_13', kb4_5_13', kb4_6_13', kb4_7_13'⟩ := keep8 hb13 (by show w8.heap.size < _; omega) kb4_0_13 kb4_1_13 kb4_2_13 kb4_3_13 kb4_4_13 kb4_5_13 kb4_6_13 kb4_7_13
  have hB13' := hB13.trans (hb13.mono hB13.size)
  have hz13' : W13.heap.size ≤ w13.heap.size := hb13.size
  have hl_b1_13' : w.heap.size < w13.heap.size := by omega
  have hl_b2_13' : w5.heap.size < w13.heap.size := by omega
  have hl_b3_13' : w6.heap.size < w13.heap.size := by omega
  have hl_b4_13' : w8.heap.size < w13.heap.size := by omega
  have ot13_0_n := Row2.born ho0_13
  clear kb4_0_13 kb4_1_13 kb4_2_13 kb4_3_13 kb4_4_13 kb4_5_13 kb4_6_13 kb4_7_13 ho0_13
  go_wp2_with fail
  first | refine name_world ?_ | refine name_wp ?_
  intro W14 hW14
  have hp14 : Below w13.heap.size w13 W14 := by rw [hW14]; repeat' (first | (with_reducible exact Below.refl _ _) | (with_reducible refine Below.alloc ?_ ?_ _) | (with_reducible refine Below.setCell ?_ ?_ _) | (with_reducible refine Below.drew ?_) | (simp; done) | (simp; omega))
  have ow0_5_0_14 := Row2.below ow0_5_0_13' hp14 (by omega)
  have ow0_5_1_14 := Row2.below ow0_5_1_13' hp14 (by omega)
  have ow1_5_0_14 := Row2.below ow1_5_0_13' hp14 (by omega)
  have ot6_0_14 := Row2.below ot6_0_13' hp14 (by omega)
  have ot6_1_14 := Row2.below ot6_1_13' hp14 (by omega)
  have ot7_0_14 := Row2.below ot7_0_13' hp14 (by omega)
  have og0_8_0_14 := Row2.below og0_8_0_13' hp14 (by omega)
  have og0_8_1_14 := Row2.below og0_8_1_13' hp14 (by omega)
  have og1_8_0_14 := Row2.below og1_8_0_13' hp14 (by omega)
  have ot13_0_14 := Row2.below ot13_0_n hp14 (by omega)
  clear ow0_5_0_13' ow0_5_1_13' ow1_5_0_13' ot6_0_13' ot6_1_13' ot7_0_13' og0_8_0_13' og0_8_1_13' og1_8_0_13' ot13_0_n
  obtain ⟨kb1_0_14, kb1_1_14, kb1_2_14, kb1_3_14, kb1_4_14, kb1_5_14, kb1_6_14, kb1_7_14⟩ := keep8 hp14 (by show w.heap.size < _; omega) kb1_0_13' kb1_1_13' kb1_2_13' kb1_3_13' kb1_4_13' kb1_5_13' kb1_6_13' kb1_7_13'
  clear kb1_0_13' kb1_1_13' kb1_2_13' kb1_3_13' kb1_4_13' kb1_5_13' kb1_6_13' kb1_7_13'
  obtain ⟨kb2_0_14, kb2_1_14, kb2_2_14, kb2_3_14, kb2_4_14, kb2_5_14, kb2_6_14, kb2_7_14⟩ := keep8 hp14 (by show w5.heap.size < _; omega) kb2_0_13' kb2_1_13' kb2_2_13' kb2_3_13' kb2_4_13' kb2_5_13' kb2_6_13' kb2_7_13'
  clear kb2_0_13' kb2_1_13' kb2_2_13' kb2_3_13' kb2_4_13' kb2_5_13' kb2_6_13' kb2_7_13'
  obtain ⟨kb3_0_14, kb3_1_14, kb3_2_14, kb3_3_14, kb3_4_14, kb3_5_14, kb3_6_14, kb3_7_14⟩ := keep8 hp14 (by show w6.heap.size < _; omega) kb3_0_13' kb3_1_13' kb3_2_13' kb3_3_13' kb3_4_13' kb3_5_13' kb3_6_13' kb3_7_13'
  clear kb3_0_13' kb3_1_13' kb3_2_13' kb3_3_13' kb3_4_13' kb3_5_13' kb3_6_13' kb3_7_13'
  obtain ⟨kb4_0_14, kb4_1_14, kb4_2_14, kb4_3_14, kb4_4_14, kb4_5_14, kb4_6_14, kb4_7_14⟩ := keep8 hp14 (by show w8.heap.size < _; omega) kb4_0_13' kb4_1_13' kb4_2_13' kb4_3_13' kb4_4_13' kb4_5_13' kb4_6_13' kb4_7_13'
  have hB14 := hB13'.trans (hp14.mono hB13'.size)
  have hz14 : w13.heap.size ≤ W14.heap.size := hp14.size
  have hl_b1_14 : w.heap.size < W14.heap.size := by omega
  have hl_b2_14 : w5.heap.size < W14.heap.size := by omega
  have hl_b3_14 : w6.heap.size < W14.heap.size := by omega
  have hl_b4_14 : w8.heap.size < W14.heap.size := by omega
  have HW14 := Lib.hid hW14; clear hW14
  clear kb4_0_13' kb4_1_13' kb4_2_13' kb4_3_13' kb4_4_13' kb4_5_13' kb4_6_13' kb4_7_13'
  refine (eqActS_same A'7 c'7 A'13 c'13 (l1) _ ot7_0_14.rd ot13_0_14.rd).mono ?_
  rintro e w14 ⟨rfl, hb14⟩
  try simp only [Vg.val]
  have ow0_5_0_14' := Row2.below ow0_5_0_14 hb14 (by omega)
  have ow0_5_1_14' := Row2.below ow0_5_1_14 hb14 (by omega)
  have ow1_5_0_14' := Row2.below ow1_5_0_14 hb14 (by omega)
  have ot6_0_14' := Row2.below ot6_0_14 hb14 (by omega)
  have ot6_1_14' := Row2.below ot6_1_14 hb14 (by omega)
  have ot7_0_14' := Row2.below ot7_0_14 hb14 (by omega)
  have og0_8_0_14' := Row2.below og0_8_0_14 hb14 (by omega)
  have og0_8_1_14' := Row2.below og0_8_1_14 hb14 (by omega)
  have og1_8_0_14' := Row2.below og1_8_0_14 hb14 (by omega)
  have ot13_0_14' := Row2.below ot13_0_14 hb14 (by omega)
  clear ow0_5_0_14 ow0_5_1_14 ow1_5_0_14 ot6_0_14 ot6_1_14 ot7_0_14 og0_8_0_14 og0_8_1_14 og1_8_0_14 ot13_0_14
  obtain ⟨kb1_0_14', kb1_1_14', kb1_2_14', kb1_3_14', kb1_4_14', kb1_5_14', kb1_6_14', kb1_7_14'⟩ := keep8 hb14 (by show w.heap.size < _; omega) kb1_0_14 kb1_1_14 kb1_2_14 kb1_3_14 kb1_4_14 kb1_5_14 kb1_6_14 kb1_7_14
  clear kb1_0_14 kb1_1_14 kb1_2_14 kb1_3_14 kb1_4_14 kb1_5_14 kb1_6_14 kb1_7_14
  obtain ⟨kb2_0_14', kb2_1_14', kb2_2_14', kb2_3_14', kb2_4_14', kb2_5_14', kb2_6_14', kb2_7_14'⟩ := keep8 hb14 (by show w5.heap.size < _; omega) kb2_0_14 kb2_1_14 kb2_2_14 kb2_3_14 kb2_4_14 kb2_5_14 kb2_6_14 kb2_7_14
  clear kb2_0_14 kb2_1_14 kb2_2_14 kb2_3_14 kb2_4_14 kb2_5_14 kb2_6_14 kb2_7_14
  obtain ⟨kb3_0_14', kb3_1_14', kb3_2_14', kb3_3_14', kb3_4_14', kb3_5_14', kb3_6_14', kb3_7_14'⟩ := keep8 hb14 (by show w6.heap.size < _; omega) kb3_0_14 kb3_1_14 kb3_2_14 kb3_3_14 kb3_4_14 kb3_5_14 kb3_6_14 kb3_7_14
  clear kb3_0_14 kb3_1_14 kb3_2_14 kb3_3_14 kb3_4_14 kb3_5_14 kb3_6_14 kb3_7_14
  obtain ⟨kb4_0_14', kb4_1_14', kb4_2_14', kb4_3_14', kb4_4_14', kb4_5_14', kb4_6_14', kb4_7_14'⟩ := keep8 hb14 (by show w8.heap.size < _; omega) kb4_0_14 kb4_1_14 kb4_2_14 kb4_3_14 kb4_4_14 kb4_5_14 kb4_6_14 kb4_7_14
  have hB14' := hB14.trans (hb14.mono hB14.size)
  have hz14' : W14.heap.size ≤ w14.heap.size := hb14.size
  have hl_b1_14' : w.heap.size < w14.heap.size := by omega
  have hl_b2_14' : w5.heap.size < w14.heap.size := by omega
  have hl_b3_14' : w6.heap.size < w14.heap.size := by omega
  have hl_b4_14' : w8.heap.size < w14.heap.size := by omega
  clear kb4_0_14 kb4_1_14 kb4_2_14 kb4_3_14 kb4_4_14 kb4_5_14 kb4_6_14 kb4_7_14
  go_wp2_with fail
  first | refine name_world ?_ | refine name_wp ?_
  intro W15 hW15
  have hp15 : Below w14.heap.size w14 W15 := by rw [hW15]; repeat' (first | (with_reducible exact Below.refl _ _) | (with_reducible refine Below.alloc ?_ ?_ _) | (with_reducible refine Below.setCell ?_ ?_ _) | (with_reducible refine Below.drew ?_) | (simp; done) | (simp; omega))
  have ow0_5_0_15 := Row2.below ow0_5_0_14' hp15 (by omega)
  have ow0_5_1_15 := Row2.below ow0_5_1_14' hp15 (by omega)
  have ow1_5_0_15 := Row2.below ow1_5_0_14' hp15 (by omega)
  have ot6_0_15 := Row2.below ot6_0_14' hp15 (by omega)
  have ot6_1_15 := Row2.below ot6_1_14' hp15 (by omega)
  have ot7_0_15 := Row2.below ot7_0_14' hp15 (by omega)
  have og0_8_0_15 := Row2.below og0_8_0_14' hp15 (by omega)
  have og0_8_1_15 := Row2.below og0_8_1_14' hp15 (by omega)
  have og1_8_0_15 := Row2.below og1_8_0_14' hp15 (by omega)
  clear ow0_5_0_14' ow0_5_1_14' ow1_5_0_14' ot6_0_14' ot6_1_14' ot7_0_14' og0_8_0_14' og0_8_1_14' og1_8_0_14'
  obtain ⟨kb1_0_15, kb1_1_15, kb1_2_15, kb1_3_15, kb1_4_15, kb1_5_15, kb1_6_15, kb1_7_15⟩ := keep8 hp15 (by show w.heap.size < _; omega) kb1_0_14' kb1_1_14' kb1_2_14' kb1_3_14' kb1_4_14' kb1_5_14' kb1_6_14' kb1_7_14'
  clear kb1_0_14' kb1_1_14' kb1_2_14' kb1_3_14' kb1_4_14' kb1_5_14' kb1_6_14' kb1_7_14'
  obtain ⟨kb2_0_15, kb2_1_15, kb2_2_15, kb2_3_15, kb2_4_15, kb2_5_15, kb2_6_15, kb2_7_15⟩ := keep8 hp15 (by show w5.heap.size < _; omega) kb2_0_14' kb2_1_14' kb2_2_14' kb2_3_14' kb2_4_14' kb2_5_14' kb2_6_14' kb2_7_14'
  clear kb2_0_14' kb2_1_14' kb2_2_14' kb2_3_14' kb2_4_14' kb2_5_14' kb2_6_14' kb2_7_14'
  obtain ⟨kb3_0_15, kb3_1_15, kb3_2_15, kb3_3_15, kb3_4_15, kb3_5_15, kb3_6_15, kb3_7_15⟩ := keep8 hp15 (by show w6.heap.size < _; omega) kb3_0_14' kb3_1_14' kb3_2_14' kb3_3_14' kb3_4_14' kb3_5_14' kb3_6_14' kb3_7_14'
  clear kb3_0_14' kb3_1_14' kb3_2_14' kb3_3_14' kb3_4_14' kb3_5_14' kb3_6_14' kb3_7_14'
  obtain ⟨kb4_0_15, kb4_1_15, kb4_2_15, kb4_3_15, kb4_4_15, kb4_5_15, kb4_6_15, kb4_7_15⟩ := keep8 hp15 (by show w8.heap.size < _; omega) kb4_0_14' kb4_1_14' kb4_2_14' kb4_3_14' kb4_4_14' kb4_5_14' kb4_6_14' kb4_7_14'
  have hB15 := hB14'.trans (hp15.mono hB14'.size)
  have hz15 : w14.heap.size ≤ W15.heap.size := hp15.size
  have hl_b1_15 : w.heap.size < W15.heap.size := by omega
  have hl_b2_15 : w5.heap.size < W15.heap.size := by omega
  have hl_b3_15 : w6.heap.size < W15.heap.size := by omega
  have hl_b4_15 : w8.heap.size < W15.heap.size := by omega
  have HW15 := Lib.hid hW15; clear hW15
  clear kb4_0_14' kb4_1_14' kb4_2_14' kb4_3_14' kb4_4_14' kb4_5_14' kb4_6_14' kb4_7_14'
  refine (markVillage_2 A'6 c'6 R'6 d'6 _ _ (v0) (1) _ (by omega) _ ot6_0_15 ot6_1_15 (by first | omega | (simp; omega))).mono ?_
  rintro e w15 ⟨rfl, hm0_15, hm1_15, hc15⟩
  try simp only [Vg.val]
  have ow0_5_0_15' := Row2.chg ow0_5_0_15 hc15 (by omega)
  have ow0_5_1_15' := Row2.chg ow0_5_1_15 hc15 (by omega)
  have ow1_5_0_15' := Row2.chg ow1_5_0_15 hc15 (by omega)
  have ot7_0_15' := Row2.chg ot7_0_15 hc15 (by omega)
  have og0_8_0_15' := Row2.chg og0_8_0_15 hc15 (by omega)
  have og0_8_1_15' := Row2.chg og0_8_1_15 hc15 (by omega)
  have og1_8_0_15' := Row2.chg og1_8_0_15 hc15 (by omega)
  clear ow0_5_0_15 ow0_5_1_15 ow1_5_0_15 ot6_0_15 ot6_1_15 ot7_0_15 og0_8_0_15 og0_8_1_15 og1_8_0_15
  obtain ⟨kb1_0_15', kb1_1_15', kb1_2_15', kb1_3_15', kb1_4_15', kb1_5_15', kb1_6_15', kb1_7_15'⟩ := Chg.keep8 hc15 (by show w.heap.size < _; omega) (by show w.heap.size < _ ∨ _ ≤ w.heap.size; omega) kb1_0_15 kb1_1_15 kb1_2_15 kb1_3_15 kb1_4_15 kb1_5_15 kb1_6_15 kb1_7_15
  clear kb1_0_15 kb1_1_15 kb1_2_15 kb1_3_15 kb1_4_15 kb1_5_15 kb1_6_15 kb1_7_15
  obtain ⟨kb2_0_15', kb2_1_15', kb2_2_15', kb2_3_15', kb2_4_15', kb2_5_15', kb2_6_15', kb2_7_15'⟩ := Chg.keep8 hc15 (by show w5.heap.size < _; omega) (by show w5.heap.size < _ ∨ _ ≤ w5.heap.size; omega) kb2_0_15 kb2_1_15 kb2_2_15 kb2_3_15 kb2_4_15 kb2_5_15 kb2_6_15 kb2_7_15
  clear kb2_0_15 kb2_1_15 kb2_2_15 kb2_3_15 kb2_4_15 kb2_5_15 kb2_6_15 kb2_7_15
  obtain ⟨kb3_0_15', kb3_1_15', kb3_2_15', kb3_3_15', kb3_4_15', kb3_5_15', kb3_6_15', kb3_7_15'⟩ := Chg.keep8 hc15 (by show w6.heap.size < _; omega) (by show w6.heap.size < _ ∨ _ ≤ w6.heap.size; omega) kb3_0_15 kb3_1_15 kb3_2_15 kb3_3_15 kb3_4_15 kb3_5_15 kb3_6_15 kb3_7_15
  clear kb3_0_15 kb3_1_15 kb3_2_15 kb3_3_15 kb3_4_15 kb3_5_15 kb3_6_15 kb3_7_15
  obtain ⟨kb4_0_15', kb4_1_15', kb4_2_15', kb4_3_15', kb4_4_15', kb4_5_15', kb4_6_15', kb4_7_15'⟩ := Chg.keep8 hc15 (by show w8.heap.size < _; omega) (by show w8.heap.size < _ ∨ _ ≤ w8.heap.size; omega) kb4_0_15 kb4_1_15 kb4_2_15 kb4_3_15 kb4_4_15 kb4_5_15 kb4_6_15 kb4_7_15
  have hB15' := Chg.below hB15 hc15 (by omega) hB15.size
  have hz15' : W15.heap.size ≤ w15.heap.size := hc15.size
  have hl_b1_15' : w.heap.size < w15.heap.size := by omega
  have hl_b2_15' : w5.heap.size < w15.heap.size := by omega
  have hl_b3_15' : w6.heap.size < w15.heap.size := by omega
  have hl_b4_15' : w8.heap.size < w15.heap.size := by omega
  clear kb4_0_15 kb4_1_15 kb4_2_15 kb4_3_15 kb4_4_15 kb4_5_15 kb4_6_15 kb4_7_15
  go_wp2_with fail
  first | refine name_world ?_ | refine name_wp ?_
  intro W16 hW16
  have hp16 : Below w15.heap.size w15 W16 := by rw [hW16]; repeat' (first | (with_reducible exact Below.refl _ _) | (with_reducible refine Below.alloc ?_ ?_ _) | (with_reducible refine Below.setCell ?_ ?_ _) | (with_reducible refine Below.drew ?_) | (simp; done) | (simp; omega))
  have ow0_5_0_16 := Row2.below ow0_5_0_15' hp16 (by omega)
  have ow0_5_1_16 := Row2.below ow0_5_1_15' hp16 (by omega)
  have ow1_5_0_16 := Row2.below ow1_5_0_15' hp16 (by omega)
  have ot6_0_16 := Row2.below hm0_15 hp16 (by omega)
  have ot6_1_16 := Row2.below hm1_15 hp16 (by omega)
  have ot7_0_16 := Row2.below ot7_0_15' hp16 (by omega)
  have og0_8_0_16 := Row2.below og0_8_0_15' hp16 (by omega)
  have og0_8_1_16 := Row2.below og0_8_1_15' hp16 (by omega)
  have og1_8_0_16 := Row2.below og1_8_0_15' hp16 (by omega)
  clear ow0_5_0_15' ow0_5_1_15' ow1_5_0_15' hm0_15 hm1_15 ot7_0_15' og0_8_0_15' og0_8_1_15' og1_8_0_15'
  obtain ⟨kb1_0_16, kb1_1_16, kb1_2_16, kb1_3_16, kb1_4_16, kb1_5_16, kb1_6_16, kb1_7_16⟩ := keep8 hp16 (by show w.heap.size < _; omega) kb1_0_15' kb1_1_15' kb1_2_15' kb1_3_15' kb1_4_15' kb1_5_15' kb1_6_15' kb1_7_15'
  clear kb1_0_15' kb1_1_15' kb1_2_15' kb1_3_15' kb1_4_15' kb1_5_15' kb1_6_15' kb1_7_15'
  obtain ⟨kb2_0_16, kb2_1_16, kb2_2_16, kb2_3_16, kb2_4_16, kb2_5_16, kb2_6_16, kb2_7_16⟩ := keep8 hp16 (by show w5.heap.size < _; omega) kb2_0_15' kb2_1_15' kb2_2_15' kb2_3_15' kb2_4_15' kb2_5_15' kb2_6_15' kb2_7_15'
  clear kb2_0_15' kb2_1_15' kb2_2_15' kb2_3_15' kb2_4_15' kb2_5_15' kb2_6_15' kb2_7_15'
  obtain ⟨kb3_0_16, kb3_1_16, kb3_2_16, kb3_3_16, kb3_4_16, kb3_5_16, kb3_6_16, kb3_7_16⟩ := keep8 hp16 (by show w6.heap.size < _; omega) kb3_0_15' kb3_1_15' kb3_2_15' kb3_3_15' kb3_4_15' kb3_5_15' kb3_6_15' kb3_7_15'
  clear kb3_0_15' kb3_1_15' kb3_2_15' kb3_3_15' kb3_4_15' kb3_5_15' kb3_6_15' kb3_7_15'
  obtain ⟨kb4_0_16, kb4_1_16, kb4_2_16, kb4_3_16, kb4_4_16, kb4_5_16, kb4_6_16, kb4_7_16⟩ := keep8 hp16 (by show w8.heap.size < _; omega) kb4_0_15' kb4_1_15' kb4_2_15' kb4_3_15' kb4_4_15' kb4_5_15' kb4_6_15' kb4_7_15'
  have hB16 := hB15'.trans (hp16.mono hB15'.size)
  have hz16 : w15.heap.size ≤ W16.heap.size := hp16.size
  have hl_b1_16 : w.heap.size < W16.heap.size := by omega
  have hl_b2_16 : w5.heap.size < W16.heap.size := by omega
  have hl_b3_16 : w6.heap.size < W16.heap.size := by omega
  have hl_b4_16 : w8.heap.size < W16.heap.size := by omega
  have HW16 := Lib.hid hW16; clear hW16
  clear kb4_0_15' kb4_1_15' kb4_2_15' kb4_3_15' kb4_4_15' kb4_5_15' kb4_6_15' kb4_7_15'
  refine (markActS_2 A'7 c'7 _ _ (l1) (1 + (3 * (v0.book.evs.length) + 3 * (v0.rights.length))) _ (by omega) _ ot7_0_16 (by first | omega | (simp; omega)) (by first | omega | (simp; omega))).mono ?_
  rintro e w16 ⟨rfl, hm0_16, hc16⟩
  try simp only [Vg.val]
  have ow0_5_0_16' := Row2.chg ow0_5_0_16 hc16 (by omega)
  have ow0_5_1_16' := Row2.chg ow0_5_1_16 hc16 (by omega)
  have ow1_5_0_16' := Row2.chg ow1_5_0_16 hc16 (by omega)
  have ot6_0_16' := Row2.chg ot6_0_16 hc16 (by omega)
  have ot6_1_16' := Row2.chg ot6_1_16 hc16 (by omega)
  have og0_8_0_16' := Row2.chg og0_8_0_16 hc16 (by omega)
  have og0_8_1_16' := Row2.chg og0_8_1_16 hc16 (by omega)
  have og1_8_0_16' := Row2.chg og1_8_0_16 hc16 (by omega)
  clear ow0_5_0_16 ow0_5_1_16 ow1_5_0_16 ot6_0_16 ot6_1_16 ot7_0_16 og0_8_0_16 og0_8_1_16 og1_8_0_16
  obtain ⟨kb1_0_16', kb1_1_16', kb1_2_16', kb1_3_16', kb1_4_16', kb1_5_16', kb1_6_16', kb1_7_16'⟩ := Chg.keep8 hc16 (by show w.heap.size < _; omega) (by show w.heap.size < _ ∨ _ ≤ w.heap.size; omega) kb1_0_16 kb1_1_16 kb1_2_16 kb1_3_16 kb1_4_16 kb1_5_16 kb1_6_16 kb1_7_16
  clear kb1_0_16 kb1_1_16 kb1_2_16 kb1_3_16 kb1_4_16 kb1_5_16 kb1_6_16 kb1_7_16
  obtain ⟨kb2_0_16', kb2_1_16', kb2_2_16', kb2_3_16', kb2_4_16', kb2_5_16', kb2_6_16', kb2_7_16'⟩ := Chg.keep8 hc16 (by show w5.heap.size < _; omega) (by show w5.heap.size < _ ∨ _ ≤ w5.heap.size; omega) kb2_0_16 kb2_1_16 kb2_2_16 kb2_3_16 kb2_4_16 kb2_5_16 kb2_6_16 kb2_7_16
  clear kb2_0_16 kb2_1_16 kb2_2_16 kb2_3_16 kb2_4_16 kb2_5_16 kb2_6_16 kb2_7_16
  obtain ⟨kb3_0_16', kb3_1_16', kb3_2_16', kb3_3_16', kb3_4_16', kb3_5_16', kb3_6_16', kb3_7_16'⟩ := Chg.keep8 hc16 (by show w6.heap.size < _; omega) (by show w6.heap.size < _ ∨ _ ≤ w6.heap.size; omega) kb3_0_16 kb3_1_16 kb3_2_16 kb3_3_16 kb3_4_16 kb3_5_16 kb3_6_16 kb3_7_16
  clear kb3_0_16 kb3_1_16 kb3_2_16 kb3_3_16 kb3_4_16 kb3_5_16 kb3_6_16 kb3_7_16
  obtain ⟨kb4_0_16', kb4_1_16', kb4_2_16', kb4_3_16', kb4_4_16', kb4_5_16', kb4_6_16', kb4_7_16'⟩ := Chg.keep8 hc16 (by show w8.heap.size < _; omega) (by show w8.heap.size < _ ∨ _ ≤ w8.heap.size; omega) kb4_0_16 kb4_1_16 kb4_2_16 kb4_3_16 kb4_4_16 kb4_5_16 kb4_6_16 kb4_7_16
  have hB16' := Chg.below hB16 hc16 (by omega) hB16.size
  have hz16' : W16.heap.size ≤ w16.heap.size := hc16.size
  have hl_b1_16' : w.heap.size < w16.heap.size := by omega
  have hl_b2_16' : w5.heap.size < w16.heap.size := by omega
  have hl_b3_16' : w6.heap.size < w16.heap.size := by omega
  have hl_b4_16' : w8.heap.size < w16.heap.size := by omega
  clear kb4_0_16 kb4_1_16 kb4_2_16 kb4_3_16 kb4_4_16 kb4_5_16 kb4_6_16 kb4_7_16
  go_wp2_with fail
  first | refine name_world ?_ | refine name_wp ?_
  intro W17 hW17
  have hp17 : Below w16.heap.size w16 W17 := by rw [hW17]; repeat' (first | (with_reducible exact Below.refl _ _) | (with_reducible refine Below.alloc ?_ ?_ _) | (with_reducible refine Below.setCell ?_ ?_ _) | (with_reducible refine Below.drew ?_) | (simp; done) | (simp; omega))
  have ow0_5_0_17 := Row2.below ow0_5_0_16' hp17 (by omega)
  have ow0_5_1_17 := Row2.below ow0_5_1_16' hp17 (by omega)
  have ow1_5_0_17 := Row2.below ow1_5_0_16' hp17 (by omega)
  have ot6_0_17 := Row2.below ot6_0_16' hp17 (by omega)
  have ot6_1_17 := Row2.below ot6_1_16' hp17 (by omega)
  have ot7_0_17 := Row2.below hm0_16 hp17 (by omega)
  have og0_8_0_17 := Row2.below og0_8_0_16' hp17 (by omega)
  have og0_8_1_17 := Row2.below og0_8_1_16' hp17 (by omega)
  have og1_8_0_17 := Row2.below og1_8_0_16' hp17 (by omega)
  clear ow0_5_0_16' ow0_5_1_16' ow1_5_0_16' ot6_0_16' ot6_1_16' hm0_16 og0_8_0_16' og0_8_1_16' og1_8_0_16'
  obtain ⟨kb1_0_17, kb1_1_17, kb1_2_17, kb1_3_17, kb1_4_17, kb1_5_17, kb1_6_17, kb1_7_17⟩ := keep8 hp17 (by show w.heap.size < _; omega) kb1_0_16' kb1_1_16' kb1_2_16' kb1_3_16' kb1_4_16' kb1_5_16' kb1_6_16' kb1_7_16'
  clear kb1_0_16' kb1_1_16' kb1_2_16' kb1_3_16' kb1_4_16' kb1_5_16' kb1_6_16' kb1_7_16'
  obtain ⟨kb2_0_17, kb2_1_17, kb2_2_17, kb2_3_17, kb2_4_17, kb2_5_17, kb2_6_17, kb2_7_17⟩ := keep8 hp17 (by show w5.heap.size < _; omega) kb2_0_16' kb2_1_16' kb2_2_16' kb2_3_16' kb2_4_16' kb2_5_16' kb2_6_16' kb2_7_16'
  clear kb2_0_16' kb2_1_16' kb2_2_16' kb2_3_16' kb2_4_16' kb2_5_16' kb2_6_16' kb2_7_16'
  obtain ⟨kb3_0_17, kb3_1_17, kb3_2_17, kb3_3_17, kb3_4_17, kb3_5_17, kb3_6_17, kb3_7_17⟩ := keep8 hp17 (by show w6.heap.size < _; omega) kb3_0_16' kb3_1_16' kb3_2_16' kb3_3_16' kb3_4_16' kb3_5_16' kb3_6_16' kb3_7_16'
  clear kb3_0_16' kb3_1_16' kb3_2_16' kb3_3_16' kb3_4_16' kb3_5_16' kb3_6_16' kb3_7_16'
  obtain ⟨kb4_0_17, kb4_1_17, kb4_2_17, kb4_3_17, kb4_4_17, kb4_5_17, kb4_6_17, kb4_7_17⟩ := keep8 hp17 (by show w8.heap.size < _; omega) kb4_0_16' kb4_1_16' kb4_2_16' kb4_3_16' kb4_4_16' kb4_5_16' kb4_6_16' kb4_7_16'
  have hB17 := hB16'.trans (hp17.mono hB16'.size)
  have hz17 : w16.heap.size ≤ W17.heap.size := hp17.size
  have hl_b1_17 : w.heap.size < W17.heap.size := by omega
  have hl_b2_17 : w5.heap.size < W17.heap.size := by omega
  have hl_b3_17 : w6.heap.size < W17.heap.size := by omega
  have hl_b4_17 : w8.heap.size < W17.heap.size := by omega
  have HW17 := Lib.hid hW17; clear hW17
  clear kb4_0_16' kb4_1_16' kb4_2_16' kb4_3_16' kb4_4_16' kb4_5_16' kb4_6_16' kb4_7_16'
  refine (eqVillage_same Ar0_8 cr0_8 Rr0_8 dr0_8 Ar0_5 cr0_5 Rr0_5 dr0_5 ((runActs v0 l1).1) _ og0_8_0_17.rd og0_8_1_17.rd ow0_5_0_17.rd ow0_5_1_17.rd).mono ?_
  rintro e w17 ⟨rfl, hb17⟩
  try simp only [Vg.val]
  have ow0_5_0_17' := Row2.below ow0_5_0_17 hb17 (by omega)
  have ow0_5_1_17' := Row2.below ow0_5_1_17 hb17 (by omega)
  have ow1_5_0_17' := Row2.below ow1_5_0_17 hb17 (by omega)
  have ot6_0_17' := Row2.below ot6_0_17 hb17 (by omega)
  have ot6_1_17' := Row2.below ot6_1_17 hb17 (by omega)
  have ot7_0_17' := Row2.below ot7_0_17 hb17 (by omega)
  have og0_8_0_17' := Row2.below og0_8_0_17 hb17 (by omega)
  have og0_8_1_17' := Row2.below og0_8_1_17 hb17 (by omega)
  have og1_8_0_17' := Row2.below og1_8_0_17 hb17 (by omega)
  clear ow0_5_0_17 ow0_5_1_17 ow1_5_0_17 ot6_0_17 ot6_1_17 ot7_0_17 og0_8_0_17 og0_8_1_17 og1_8_0_17
  obtain ⟨kb1_0_17', kb1_1_17', kb1_2_17', kb1_3_17', kb1_4_17', kb1_5_17', kb1_6_17', kb1_7_17'⟩ := keep8 hb17 (by show w.heap.size < _; omega) kb1_0_17 kb1_1_17 kb1_2_17 kb1_3_17 kb1_4_17 kb1_5_17 kb1_6_17 kb1_7_17
  clear kb1_0_17 kb1_1_17 kb1_2_17 kb1_3_17 kb1_4_17 kb1_5_17 kb1_6_17 kb1_7_17
  obtain ⟨kb2_0_17', kb2_1_17', kb2_2_17', kb2_3_17', kb2_4_17', kb2_5_17', kb2_6_17', kb2_7_17'⟩ := keep8 hb17 (by show w5.heap.size < _; omega) kb2_0_17 kb2_1_17 kb2_2_17 kb2_3_17 kb2_4_17 kb2_5_17 kb2_6_17 kb2_7_17
  clear kb2_0_17 kb2_1_17 kb2_2_17 kb2_3_17 kb2_4_17 kb2_5_17 kb2_6_17 kb2_7_17
  obtain ⟨kb3_0_17', kb3_1_17', kb3_2_17', kb3_3_17', kb3_4_17', kb3_5_17', kb3_6_17', kb3_7_17'⟩ := keep8 hb17 (by show w6.heap.size < _; omega) kb3_0_17 kb3_1_17 kb3_2_17 kb3_3_17 kb3_4_17 kb3_5_17 kb3_6_17 kb3_7_17
  clear kb3_0_17 kb3_1_17 kb3_2_17 kb3_3_17 kb3_4_17 kb3_5_17 kb3_6_17 kb3_7_17
  obtain ⟨kb4_0_17', kb4_1_17', kb4_2_17', kb4_3_17', kb4_4_17', kb4_5_17', kb4_6_17', kb4_7_17'⟩ := keep8 hb17 (by show w8.heap.size < _; omega) kb4_0_17 kb4_1_17 kb4_2_17 kb4_3_17 kb4_4_17 kb4_5_17 kb4_6_17 kb4_7_17
  have hB17' := hB17.trans (hb17.mono hB17.size)
  have hz17' : W17.heap.size ≤ w17.heap.size := hb17.size
  have hl_b1_17' : w.heap.size < w17.heap.size := by omega
  have hl_b2_17' : w5.heap.size < w17.heap.size := by omega
  have hl_b3_17' : w6.heap.size < w17.heap.size := by omega
  have hl_b4_17' : w8.heap.size < w17.heap.size := by omega
  clear kb4_0_17 kb4_1_17 kb4_2_17 kb4_3_17 kb4_4_17 kb4_5_17 kb4_6_17 kb4_7_17
  go_wp2_with fail
  first | refine name_world ?_ | refine name_wp ?_
  intro W18 hW18
  have hp18 : Below w17.heap.size w17 W18 := by rw [hW18]; repeat' (first | (with_reducible exact Below.refl _ _) | (with_reducible refine Below.alloc ?_ ?_ _) | (with_reducible refine Below.setCell ?_ ?_ _) | (with_reducible refine Below.drew ?_) | (simp; done) | (simp; omega))
  have ow0_5_0_18 := Row2.below ow0_5_0_17' hp18 (by omega)
  have ow0_5_1_18 := Row2.below ow0_5_1_17' hp18 (by omega)
  have ow1_5_0_18 := Row2.below ow1_5_0_17' hp18 (by omega)
  have ot6_0_18 := Row2.below ot6_0_17' hp18 (by omega)
  have ot6_1_18 := Row2.below ot6_1_17' hp18 (by omega)
  have ot7_0_18 := Row2.below ot7_0_17' hp18 (by omega)
  have og0_8_0_18 := Row2.below og0_8_0_17' hp18 (by omega)
  have og0_8_1_18 := Row2.below og0_8_1_17' hp18 (by omega)
  have og1_8_0_18 := Row2.below og1_8_0_17' hp18 (by omega)
  clear ow0_5_0_17' ow0_5_1_17' ow1_5_0_17' ot6_0_17' ot6_1_17' ot7_0_17' og0_8_0_17' og0_8_1_17' og1_8_0_17'
  obtain ⟨kb1_0_18, kb1_1_18, kb1_2_18, kb1_3_18, kb1_4_18, kb1_5_18, kb1_6_18, kb1_7_18⟩ := keep8 hp18 (by show w.heap.size < _; omega) kb1_0_17' kb1_1_17' kb1_2_17' kb1_3_17' kb1_4_17' kb1_5_17' kb1_6_17' kb1_7_17'
  clear kb1_0_17' kb1_1_17' kb1_2_17' kb1_3_17' kb1_4_17' kb1_5_17' kb1_6_17' kb1_7_17'
  obtain ⟨kb2_0_18, kb2_1_18, kb2_2_18, kb2_3_18, kb2_4_18, kb2_5_18, kb2_6_18, kb2_7_18⟩ := keep8 hp18 (by show w5.heap.size < _; omega) kb2_0_17' kb2_1_17' kb2_2_17' kb2_3_17' kb2_4_17' kb2_5_17' kb2_6_17' kb2_7_17'
  clear kb2_0_17' kb2_1_17' kb2_2_17' kb2_3_17' kb2_4_17' kb2_5_17' kb2_6_17' kb2_7_17'
  obtain ⟨kb3_0_18, kb3_1_18, kb3_2_18, kb3_3_18, kb3_4_18, kb3_5_18, kb3_6_18, kb3_7_18⟩ := keep8 hp18 (by show w6.heap.size < _; omega) kb3_0_17' kb3_1_17' kb3_2_17' kb3_3_17' kb3_4_17' kb3_5_17' kb3_6_17' kb3_7_17'
  clear kb3_0_17' kb3_1_17' kb3_2_17' kb3_3_17' kb3_4_17' kb3_5_17' kb3_6_17' kb3_7_17'
  obtain ⟨kb4_0_18, kb4_1_18, kb4_2_18, kb4_3_18, kb4_4_18, kb4_5_18, kb4_6_18, kb4_7_18⟩ := keep8 hp18 (by show w8.heap.size < _; omega) kb4_0_17' kb4_1_17' kb4_2_17' kb4_3_17' kb4_4_17' kb4_5_17' kb4_6_17' kb4_7_17'
  have hB18 := hB17'.trans (hp18.mono hB17'.size)
  have hz18 : w17.heap.size ≤ W18.heap.size := hp18.size
  have hl_b1_18 : w.heap.size < W18.heap.size := by omega
  have hl_b2_18 : w5.heap.size < W18.heap.size := by omega
  have hl_b3_18 : w6.heap.size < W18.heap.size := by omega
  have hl_b4_18 : w8.heap.size < W18.heap.size := by omega
  have HW18 := Lib.hid hW18; clear hW18
  clear kb4_0_17' kb4_1_17' kb4_2_17' kb4_3_17' kb4_4_17' kb4_5_17' kb4_6_17' kb4_7_17'
  refine (eqIntS_same Ar1_8 cr1_8 Ar1_5 cr1_5 ((runActs v0 l1).2) _ og1_8_0_18.rd ow1_5_0_18.rd).mono ?_
  rintro e w18 ⟨rfl, hb18⟩
  try simp only [Vg.val]
  have ow0_5_0_18' := Row2.below ow0_5_0_18 hb18 (by omega)
  have ow0_5_1_18' := Row2.below ow0_5_1_18 hb18 (by omega)
  have ow1_5_0_18' := Row2.below ow1_5_0_18 hb18 (by omega)
  have ot6_0_18' := Row2.below ot6_0_18 hb18 (by omega)
  have ot6_1_18' := Row2.below ot6_1_18 hb18 (by omega)
  have ot7_0_18' := Row2.below ot7_0_18 hb18 (by omega)
  have og0_8_0_18' := Row2.below og0_8_0_18 hb18 (by omega)
  have og0_8_1_18' := Row2.below og0_8_1_18 hb18 (by omega)
  have og1_8_0_18' := Row2.below og1_8_0_18 hb18 (by omega)
  clear ow0_5_0_18 ow0_5_1_18 ow1_5_0_18 ot6_0_18 ot6_1_18 ot7_0_18 og0_8_0_18 og0_8_1_18 og1_8_0_18
  obtain ⟨kb1_0_18', kb1_1_18', kb1_2_18', kb1_3_18', kb1_4_18', kb1_5_18', kb1_6_18', kb1_7_18'⟩ := keep8 hb18 (by show w.heap.size < _; omega) kb1_0_18 kb1_1_18 kb1_2_18 kb1_3_18 kb1_4_18 kb1_5_18 kb1_6_18 kb1_7_18
  clear kb1_0_18 kb1_1_18 kb1_2_18 kb1_3_18 kb1_4_18 kb1_5_18 kb1_6_18 kb1_7_18
  obtain ⟨kb2_0_18', kb2_1_18', kb2_2_18', kb2_3_18', kb2_4_18', kb2_5_18', kb2_6_18', kb2_7_18'⟩ := keep8 hb18 (by show w5.heap.size < _; omega) kb2_0_18 kb2_1_18 kb2_2_18 kb2_3_18 kb2_4_18 kb2_5_18 kb2_6_18 kb2_7_18
  clear kb2_0_18 kb2_1_18 kb2_2_18 kb2_3_18 kb2_4_18 kb2_5_18 kb2_6_18 kb2_7_18
  obtain ⟨kb3_0_18', kb3_1_18', kb3_2_18', kb3_3_18', kb3_4_18', kb3_5_18', kb3_6_18', kb3_7_18'⟩ := keep8 hb18 (by show w6.heap.size < _; omega) kb3_0_18 kb3_1_18 kb3_2_18 kb3_3_18 kb3_4_18 kb3_5_18 kb3_6_18 kb3_7_18
  clear kb3_0_18 kb3_1_18 kb3_2_18 kb3_3_18 kb3_4_18 kb3_5_18 kb3_6_18 kb3_7_18
  obtain ⟨kb4_0_18', kb4_1_18', kb4_2_18', kb4_3_18', kb4_4_18', kb4_5_18', kb4_6_18', kb4_7_18'⟩ := keep8 hb18 (by show w8.heap.size < _; omega) kb4_0_18 kb4_1_18 kb4_2_18 kb4_3_18 kb4_4_18 kb4_5_18 kb4_6_18 kb4_7_18
  have hB18' := hB18.trans (hb18.mono hB18.size)
  have hz18' : W18.heap.size ≤ w18.heap.size := hb18.size
  have hl_b1_18' : w.heap.size < w18.heap.size := by omega
  have hl_b2_18' : w5.heap.size < w18.heap.size := by omega
  have hl_b3_18' : w6.heap.size < w18.heap.size := by omega
  have hl_b4_18' : w8.heap.size < w18.heap.size := by omega
  clear kb4_0_18 kb4_1_18 kb4_2_18 kb4_3_18 kb4_4_18 kb4_5_18 kb4_6_18 kb4_7_18
  go_wp2_with fail
  first | refine name_world ?_ | refine name_wp ?_
  intro W19 hW19
  have hp19 : Below w18.heap.size w18 W19 := by rw [hW19]; repeat' (first | (with_reducible exact Below.refl _ _) | (with_reducible refine Below.alloc ?_ ?_ _) | (with_reducible refine Below.setCell ?_ ?_ _) | (with_reducible refine Below.drew ?_) | (simp; done) | (simp; omega))
  have ow0_5_0_19 := Row2.below ow0_5_0_18' hp19 (by omega)
  have ow0_5_1_19 := Row2.below ow0_5_1_18' hp19 (by omega)
  have ow1_5_0_19 := Row2.below ow1_5_0_18' hp19 (by omega)
  have ot6_0_19 := Row2.below ot6_0_18' hp19 (by omega)
  have ot6_1_19 := Row2.below ot6_1_18' hp19 (by omega)
  have ot7_0_19 := Row2.below ot7_0_18' hp19 (by omega)
  have og0_8_0_19 := Row2.below og0_8_0_18' hp19 (by omega)
  have og0_8_1_19 := Row2.below og0_8_1_18' hp19 (by omega)
  have og1_8_0_19 := Row2.below og1_8_0_18' hp19 (by omega)
  clear ow0_5_0_18' ow0_5_1_18' ow1_5_0_18' ot6_0_18' ot6_1_18' ot7_0_18' og0_8_0_18' og0_8_1_18' og1_8_0_18'
  obtain ⟨kb1_0_19, kb1_1_19, kb1_2_19, kb1_3_19, kb1_4_19, kb1_5_19, kb1_6_19, kb1_7_19⟩ := keep8 hp19 (by show w.heap.size < _; omega) kb1_0_18' kb1_1_18' kb1_2_18' kb1_3_18' kb1_4_18' kb1_5_18' kb1_6_18' kb1_7_18'
  clear kb1_0_18' kb1_1_18' kb1_2_18' kb1_3_18' kb1_4_18' kb1_5_18' kb1_6_18' kb1_7_18'
  obtain ⟨kb2_0_19, kb2_1_19, kb2_2_19, kb2_3_19, kb2_4_19, kb2_5_19, kb2_6_19, kb2_7_19⟩ := keep8 hp19 (by show w5.heap.size < _; omega) kb2_0_18' kb2_1_18' kb2_2_18' kb2_3_18' kb2_4_18' kb2_5_18' kb2_6_18' kb2_7_18'
  clear kb2_0_18' kb2_1_18' kb2_2_18' kb2_3_18' kb2_4_18' kb2_5_18' kb2_6_18' kb2_7_18'
  obtain ⟨kb3_0_19, kb3_1_19, kb3_2_19, kb3_3_19, kb3_4_19, kb3_5_19, kb3_6_19, kb3_7_19⟩ := keep8 hp19 (by show w6.heap.size < _; omega) kb3_0_18' kb3_1_18' kb3_2_18' kb3_3_18' kb3_4_18' kb3_5_18' kb3_6_18' kb3_7_18'
  clear kb3_0_18' kb3_1_18' kb3_2_18' kb3_3_18' kb3_4_18' kb3_5_18' kb3_6_18' kb3_7_18'
  obtain ⟨kb4_0_19, kb4_1_19, kb4_2_19, kb4_3_19, kb4_4_19, kb4_5_19, kb4_6_19, kb4_7_19⟩ := keep8 hp19 (by show w8.heap.size < _; omega) kb4_0_18' kb4_1_18' kb4_2_18' kb4_3_18' kb4_4_18' kb4_5_18' kb4_6_18' kb4_7_18'
  have hB19 := hB18'.trans (hp19.mono hB18'.size)
  have hz19 : w18.heap.size ≤ W19.heap.size := hp19.size
  have hl_b1_19 : w.heap.size < W19.heap.size := by omega
  have hl_b2_19 : w5.heap.size < W19.heap.size := by omega
  have hl_b3_19 : w6.heap.size < W19.heap.size := by omega
  have hl_b4_19 : w8.heap.size < W19.heap.size := by omega
  have HW19 := Lib.hid hW19; clear hW19
  clear kb4_0_18' kb4_1_18' kb4_2_18' kb4_3_18' kb4_4_18' kb4_5_18' kb4_6_18' kb4_7_18'
  refine (markVillage_2 Ar0_8 cr0_8 Rr0_8 dr0_8 _ _ ((runActs v0 l1).1) (1) _ (by omega) _ og0_8_0_19 og0_8_1_19 (by first | omega | (simp; omega))).mono ?_
  rintro e w19 ⟨rfl, hm0_19, hm1_19, hc19⟩
  try simp only [Vg.val]
  have ow0_5_0_19' := Row2.chg ow0_5_0_19 hc19 (by omega)
  have ow0_5_1_19' := Row2.chg ow0_5_1_19 hc19 (by omega)
  have ow1_5_0_19' := Row2.chg ow1_5_0_19 hc19 (by omega)
  have ot6_0_19' := Row2.chg ot6_0_19 hc19 (by omega)
  have ot6_1_19' := Row2.chg ot6_1_19 hc19 (by omega)
  have ot7_0_19' := Row2.chg ot7_0_19 hc19 (by omega)
  have og1_8_0_19' := Row2.chg og1_8_0_19 hc19 (by omega)
  clear ow0_5_0_19 ow0_5_1_19 ow1_5_0_19 ot6_0_19 ot6_1_19 ot7_0_19 og0_8_0_19 og0_8_1_19 og1_8_0_19
  obtain ⟨kb1_0_19', kb1_1_19', kb1_2_19', kb1_3_19', kb1_4_19', kb1_5_19', kb1_6_19', kb1_7_19'⟩ := Chg.keep8 hc19 (by show w.heap.size < _; omega) (by show w.heap.size < _ ∨ _ ≤ w.heap.size; omega) kb1_0_19 kb1_1_19 kb1_2_19 kb1_3_19 kb1_4_19 kb1_5_19 kb1_6_19 kb1_7_19
  clear kb1_0_19 kb1_1_19 kb1_2_19 kb1_3_19 kb1_4_19 kb1_5_19 kb1_6_19 kb1_7_19
  obtain ⟨kb2_0_19', kb2_1_19', kb2_2_19', kb2_3_19', kb2_4_19', kb2_5_19', kb2_6_19', kb2_7_19'⟩ := Chg.keep8 hc19 (by show w5.heap.size < _; omega) (by show w5.heap.size < _ ∨ _ ≤ w5.heap.size; omega) kb2_0_19 kb2_1_19 kb2_2_19 kb2_3_19 kb2_4_19 kb2_5_19 kb2_6_19 kb2_7_19
  clear kb2_0_19 kb2_1_19 kb2_2_19 kb2_3_19 kb2_4_19 kb2_5_19 kb2_6_19 kb2_7_19
  obtain ⟨kb3_0_19', kb3_1_19', kb3_2_19', kb3_3_19', kb3_4_19', kb3_5_19', kb3_6_19', kb3_7_19'⟩ := Chg.keep8 hc19 (by show w6.heap.size < _; omega) (by show w6.heap.size < _ ∨ _ ≤ w6.heap.size; omega) kb3_0_19 kb3_1_19 kb3_2_19 kb3_3_19 kb3_4_19 kb3_5_19 kb3_6_19 kb3_7_19
  clear kb3_0_19 kb3_1_19 kb3_2_19 kb3_3_19 kb3_4_19 kb3_5_19 kb3_6_19 kb3_7_19
  obtain ⟨kb4_0_19', kb4_1_19', kb4_2_19', kb4_3_19', kb4_4_19', kb4_5_19', kb4_6_19', kb4_7_19'⟩ := Chg.keep8 hc19 (by show w8.heap.size < _; omega) (by show w8.heap.size < _ ∨ _ ≤ w8.heap.size; omega) kb4_0_19 kb4_1_19 kb4_2_19 kb4_3_19 kb4_4_19 kb4_5_19 kb4_6_19 kb4_7_19
  have hB19' := Chg.below hB19 hc19 (by omega) hB19.size
  have hz19' : W19.heap.size ≤ w19.heap.size := hc19.size
  have hl_b1_19' : w.heap.size < w19.heap.size := by omega
  have hl_b2_19' : w5.heap.size < w19.heap.size := by omega
  have hl_b3_19' : w6.heap.size < w19.heap.size := by omega
  have hl_b4_19' : w8.heap.size < w19.heap.size := by omega
  clear kb4_0_19 kb4_1_19 kb4_2_19 kb4_3_19 kb4_4_19 kb4_5_19 kb4_6_19 kb4_7_19
  go_wp2_with fail
  first | refine name_world ?_ | refine name_wp ?_
  intro W20 hW20
  have hp20 : Below w19.heap.size w19 W20 := by rw [hW20]; repeat' (first | (with_reducible exact Below.refl _ _) | (with_reducible refine Below.alloc ?_ ?_ _) | (with_reducible refine Below.setCell ?_ ?_ _) | (with_reducible refine Below.drew ?_) | (simp; done) | (simp; omega))
  have ow0_5_0_20 := Row2.below ow0_5_0_19' hp20 (by omega)
  have ow0_5_1_20 := Row2.below ow0_5_1_19' hp20 (by omega)
  have ow1_5_0_20 := Row2.below ow1_5_0_19' hp20 (by omega)
  have ot6_0_20 := Row2.below ot6_0_19' hp20 (by omega)
  have ot6_1_20 := Row2.below ot6_1_19' hp20 (by omega)
  have ot7_0_20 := Row2.below ot7_0_19' hp20 (by omega)
  have og0_8_0_20 := Row2.below hm0_19 hp20 (by omega)
  have og0_8_1_20 := Row2.below hm1_19 hp20 (by omega)
  have og1_8_0_20 := Row2.below og1_8_0_19' hp20 (by omega)
  clear ow0_5_0_19' ow0_5_1_19' ow1_5_0_19' ot6_0_19' ot6_1_19' ot7_0_19' hm0_19 hm1_19 og1_8_0_19'
  obtain ⟨kb1_0_20, kb1_1_20, kb1_2_20, kb1_3_20, kb1_4_20, kb1_5_20, kb1_6_20, kb1_7_20⟩ := keep8 hp20 (by show w.heap.size < _; omega) kb1_0_19' kb1_1_19' kb1_2_19' kb1_3_19' kb1_4_19' kb1_5_19' kb1_6_19' kb1_7_19'
  clear kb1_0_19' kb1_1_19' kb1_2_19' kb1_3_19' kb1_4_19' kb1_5_19' kb1_6_19' kb1_7_19'
  obtain ⟨kb2_0_20, kb2_1_20, kb2_2_20, kb2_3_20, kb2_4_20, kb2_5_20, kb2_6_20, kb2_7_20⟩ := keep8 hp20 (by show w5.heap.size < _; omega) kb2_0_19' kb2_1_19' kb2_2_19' kb2_3_19' kb2_4_19' kb2_5_19' kb2_6_19' kb2_7_19'
  clear kb2_0_19' kb2_1_19' kb2_2_19' kb2_3_19' kb2_4_19' kb2_5_19' kb2_6_19' kb2_7_19'
  obtain ⟨kb3_0_20, kb3_1_20, kb3_2_20, kb3_3_20, kb3_4_20, kb3_5_20, kb3_6_20, kb3_7_20⟩ := keep8 hp20 (by show w6.heap.size < _; omega) kb3_0_19' kb3_1_19' kb3_2_19' kb3_3_19' kb3_4_19' kb3_5_19' kb3_6_19' kb3_7_19'
  clear kb3_0_19' kb3_1_19' kb3_2_19' kb3_3_19' kb3_4_19' kb3_5_19' kb3_6_19' kb3_7_19'
  obtain ⟨kb4_0_20, kb4_1_20, kb4_2_20, kb4_3_20, kb4_4_20, kb4_5_20, kb4_6_20, kb4_7_20⟩ := keep8 hp20 (by show w8.heap.size < _; omega) kb4_0_19' kb4_1_19' kb4_2_19' kb4_3_19' kb4_4_19' kb4_5_19' kb4_6_19' kb4_7_19'
  have hB20 := hB19'.trans (hp20.mono hB19'.size)
  have hz20 : w19.heap.size ≤ W20.heap.size := hp20.size
  have hl_b1_20 : w.heap.size < W20.heap.size := by omega
  have hl_b2_20 : w5.heap.size < W20.heap.size := by omega
  have hl_b3_20 : w6.heap.size < W20.heap.size := by omega
  have hl_b4_20 : w8.heap.size < W20.heap.size := by omega
  have HW20 := Lib.hid hW20; clear hW20
  clear kb4_0_19' kb4_1_19' kb4_2_19' kb4_3_19' kb4_4_19' kb4_5_19' kb4_6_19' kb4_7_19'
  refine (markIntS_2 Ar1_8 cr1_8 _ _ ((runActs v0 l1).2) (1 + (3 * ((runActs v0 l1).1.book.evs.length) + 3 * ((runActs v0 l1).1.rights.length))) _ (by omega) _ og1_8_0_20 (by first | omega | (simp; omega))).mono ?_
  rintro e w20 ⟨rfl, hm0_20, hc20⟩
  try simp only [Vg.val]
  have ow0_5_0_20' := Row2.chg ow0_5_0_20 hc20 (by omega)
  have ow0_5_1_20' := Row2.chg ow0_5_1_20 hc20 (by omega)
  have ow1_5_0_20' := Row2.chg ow1_5_0_20 hc20 (by omega)
  have ot6_0_20' := Row2.chg ot6_0_20 hc20 (by omega)
  have ot6_1_20' := Row2.chg ot6_1_20 hc20 (by omega)
  have ot7_0_20' := Row2.chg ot7_0_20 hc20 (by omega)
  have og0_8_0_20' := Row2.chg og0_8_0_20 hc20 (by omega)
  have og0_8_1_20' := Row2.chg og0_8_1_20 hc20 (by omega)
  clear ow0_5_0_20 ow0_5_1_20 ow1_5_0_20 ot6_0_20 ot6_1_20 ot7_0_20 og0_8_0_20 og0_8_1_20 og1_8_0_20
  obtain ⟨kb1_0_20', kb1_1_20', kb1_2_20', kb1_3_20', kb1_4_20', kb1_5_20', kb1_6_20', kb1_7_20'⟩ := Chg.keep8 hc20 (by show w.heap.size < _; omega) (by show w.heap.size < _ ∨ _ ≤ w.heap.size; omega) kb1_0_20 kb1_1_20 kb1_2_20 kb1_3_20 kb1_4_20 kb1_5_20 kb1_6_20 kb1_7_20
  clear kb1_0_20 kb1_1_20 kb1_2_20 kb1_3_20 kb1_4_20 kb1_5_20 kb1_6_20 kb1_7_20
  obtain ⟨kb2_0_20', kb2_1_20', kb2_2_20', kb2_3_20', kb2_4_20', kb2_5_20', kb2_6_20', kb2_7_20'⟩ := Chg.keep8 hc20 (by show w5.heap.size < _; omega) (by show w5.heap.size < _ ∨ _ ≤ w5.heap.size; omega) kb2_0_20 kb2_1_20 kb2_2_20 kb2_3_20 kb2_4_20 kb2_5_20 kb2_6_20 kb2_7_20
  clear kb2_0_20 kb2_1_20 kb2_2_20 kb2_3_20 kb2_4_20 kb2_5_20 kb2_6_20 kb2_7_20
  obtain ⟨kb3_0_20', kb3_1_20', kb3_2_20', kb3_3_20', kb3_4_20', kb3_5_20', kb3_6_20', kb3_7_20'⟩ := Chg.keep8 hc20 (by show w6.heap.size < _; omega) (by show w6.heap.size < _ ∨ _ ≤ w6.heap.size; omega) kb3_0_20 kb3_1_20 kb3_2_20 kb3_3_20 kb3_4_20 kb3_5_20 kb3_6_20 kb3_7_20
  clear kb3_0_20 kb3_1_20 kb3_2_20 kb3_3_20 kb3_4_20 kb3_5_20 kb3_6_20 kb3_7_20
  obtain ⟨kb4_0_20', kb4_1_20', kb4_2_20', kb4_3_20', kb4_4_20', kb4_5_20', kb4_6_20', kb4_7_20'⟩ := Chg.keep8 hc20 (by show w8.heap.size < _; omega) (by show w8.heap.size < _ ∨ _ ≤ w8.heap.size; omega) kb4_0_20 kb4_1_20 kb4_2_20 kb4_3_20 kb4_4_20 kb4_5_20 kb4_6_20 kb4_7_20
  have hB20' := Chg.below hB20 hc20 (by omega) hB20.size
  have hz20' : W20.heap.size ≤ w20.heap.size := hc20.size
  have hl_b1_20' : w.heap.size < w20.heap.size := by omega
  have hl_b2_20' : w5.heap.size < w20.heap.size := by omega
  have hl_b3_20' : w6.heap.size < w20.heap.size := by omega
  have hl_b4_20' : w8.heap.size < w20.heap.size := by omega
  clear kb4_0_20 kb4_1_20 kb4_2_20 kb4_3_20 kb4_4_20 kb4_5_20 kb4_6_20 kb4_7_20
  go_wp2_with fail
  first | refine name_world ?_ | refine name_wp ?_
  intro W21 hW21
  have hp21 : Below w20.heap.size w20 W21 := by rw [hW21]; repeat' (first | (with_reducible exact Below.refl _ _) | (with_reducible refine Below.alloc ?_ ?_ _) | (with_reducible refine Below.setCell ?_ ?_ _) | (with_reducible refine Below.drew ?_) | (simp; done) | (simp; omega))
  have ow0_5_0_21 := Row2.below ow0_5_0_20' hp21 (by omega)
  have ow0_5_1_21 := Row2.below ow0_5_1_20' hp21 (by omega)
  have ow1_5_0_21 := Row2.below ow1_5_0_20' hp21 (by omega)
  have ot6_0_21 := Row2.below ot6_0_20' hp21 (by omega)
  have ot6_1_21 := Row2.below ot6_1_20' hp21 (by omega)
  have ot7_0_21 := Row2.below ot7_0_20' hp21 (by omega)
  have og0_8_0_21 := Row2.below og0_8_0_20' hp21 (by omega)
  have og0_8_1_21 := Row2.below og0_8_1_20' hp21 (by omega)
  have og1_8_0_21 := Row2.below hm0_20 hp21 (by omega)
  clear ow0_5_0_20' ow0_5_1_20' ow1_5_0_20' ot6_0_20' ot6_1_20' ot7_0_20' og0_8_0_20' og0_8_1_20' hm0_20
  obtain ⟨kb1_0_21, kb1_1_21, kb1_2_21, kb1_3_21, kb1_4_21, kb1_5_21, kb1_6_21, kb1_7_21⟩ := keep8 hp21 (by show w.heap.size < _; omega) kb1_0_20' kb1_1_20' kb1_2_20' kb1_3_20' kb1_4_20' kb1_5_20' kb1_6_20' kb1_7_20'
  clear kb1_0_20' kb1_1_20' kb1_2_20' kb1_3_20' kb1_4_20' kb1_5_20' kb1_6_20' kb1_7_20'
  obtain ⟨kb2_0_21, kb2_1_21, kb2_2_21, kb2_3_21, kb2_4_21, kb2_5_21, kb2_6_21, kb2_7_21⟩ := keep8 hp21 (by show w5.heap.size < _; omega) kb2_0_20' kb2_1_20' kb2_2_20' kb2_3_20' kb2_4_20' kb2_5_20' kb2_6_20' kb2_7_20'
  clear kb2_0_20' kb2_1_20' kb2_2_20' kb2_3_20' kb2_4_20' kb2_5_20' kb2_6_20' kb2_7_20'
  obtain ⟨kb3_0_21, kb3_1_21, kb3_2_21, kb3_3_21, kb3_4_21, kb3_5_21, kb3_6_21, kb3_7_21⟩ := keep8 hp21 (by show w6.heap.size < _; omega) kb3_0_20' kb3_1_20' kb3_2_20' kb3_3_20' kb3_4_20' kb3_5_20' kb3_6_20' kb3_7_20'
  clear kb3_0_20' kb3_1_20' kb3_2_20' kb3_3_20' kb3_4_20' kb3_5_20' kb3_6_20' kb3_7_20'
  obtain ⟨kb4_0_21, kb4_1_21, kb4_2_21, kb4_3_21, kb4_4_21, kb4_5_21, kb4_6_21, kb4_7_21⟩ := keep8 hp21 (by show w8.heap.size < _; omega) kb4_0_20' kb4_1_20' kb4_2_20' kb4_3_20' kb4_4_20' kb4_5_20' kb4_6_20' kb4_7_20'
  have hB21 := hB20'.trans (hp21.mono hB20'.size)
  have hz21 : w20.heap.size ≤ W21.heap.size := hp21.size
  have hl_b1_21 : w.heap.size < W21.heap.size := by omega
  have hl_b2_21 : w5.heap.size < W21.heap.size := by omega
  have hl_b3_21 : w6.heap.size < W21.heap.size := by omega
  have hl_b4_21 : w8.heap.size < W21.heap.size := by omega
  have HW21 := Lib.hid hW21; clear hW21
  clear kb4_0_20' kb4_1_20' kb4_2_20' kb4_3_20' kb4_4_20' kb4_5_20' kb4_6_20' kb4_7_20'
  refine (heldVillage_2 Ar0_8 cr0_8 Rr0_8 dr0_8 _ _ ((runActs v0 l1).1) (1) _ (by omega) _ og0_8_0_21 og0_8_1_21 (by first | omega | (simp; omega))).mono ?_
  rintro e w21 ⟨rfl, hb21⟩
  try simp only [Vg.val]
  have ow0_5_0_21' := Row2.below ow0_5_0_21 hb21 (by omega)
  have ow0_5_1_21' := Row2.below ow0_5_1_21 hb21 (by omega)
  have ow1_5_0_21' := Row2.below ow1_5_0_21 hb21 (by omega)
  have ot6_0_21' := Row2.below ot6_0_21 hb21 (by omega)
  have ot6_1_21' := Row2.below ot6_1_21 hb21 (by omega)
  have ot7_0_21' := Row2.below ot7_0_21 hb21 (by omega)
  have og0_8_0_21' := Row2.below og0_8_0_21 hb21 (by omega)
  have og0_8_1_21' := Row2.below og0_8_1_21 hb21 (by omega)
  have og1_8_0_21' := Row2.below og1_8_0_21 hb21 (by omega)
  clear ow0_5_0_21 ow0_5_1_21 ow1_5_0_21 ot6_0_21 ot6_1_21 ot7_0_21 og0_8_0_21 og0_8_1_21 og1_8_0_21
  obtain ⟨kb1_0_21', kb1_1_21', kb1_2_21', kb1_3_21', kb1_4_21', kb1_5_21', kb1_6_21', kb1_7_21'⟩ := keep8 hb21 (by show w.heap.size < _; omega) kb1_0_21 kb1_1_21 kb1_2_21 kb1_3_21 kb1_4_21 kb1_5_21 kb1_6_21 kb1_7_21
  clear kb1_0_21 kb1_1_21 kb1_2_21 kb1_3_21 kb1_4_21 kb1_5_21 kb1_6_21 kb1_7_21
  obtain ⟨kb2_0_21', kb2_1_21', kb2_2_21', kb2_3_21', kb2_4_21', kb2_5_21', kb2_6_21', kb2_7_21'⟩ := keep8 hb21 (by show w5.heap.size < _; omega) kb2_0_21 kb2_1_21 kb2_2_21 kb2_3_21 kb2_4_21 kb2_5_21 kb2_6_21 kb2_7_21
  clear kb2_0_21 kb2_1_21 kb2_2_21 kb2_3_21 kb2_4_21 kb2_5_21 kb2_6_21 kb2_7_21
  obtain ⟨kb3_0_21', kb3_1_21', kb3_2_21', kb3_3_21', kb3_4_21', kb3_5_21', kb3_6_21', kb3_7_21'⟩ := keep8 hb21 (by show w6.heap.size < _; omega) kb3_0_21 kb3_1_21 kb3_2_21 kb3_3_21 kb3_4_21 kb3_5_21 kb3_6_21 kb3_7_21
  clear kb3_0_21 kb3_1_21 kb3_2_21 kb3_3_21 kb3_4_21 kb3_5_21 kb3_6_21 kb3_7_21
  obtain ⟨kb4_0_21', kb4_1_21', kb4_2_21', kb4_3_21', kb4_4_21', kb4_5_21', kb4_6_21', kb4_7_21'⟩ := keep8 hb21 (by show w8.heap.size < _; omega) kb4_0_21 kb4_1_21 kb4_2_21 kb4_3_21 kb4_4_21 kb4_5_21 kb4_6_21 kb4_7_21
  have hB21' := hB21.trans (hb21.mono hB21.size)
  have hz21' : W21.heap.size ≤ w21.heap.size := hb21.size
  have hl_b1_21' : w.heap.size < w21.heap.size := by omega
  have hl_b2_21' : w5.heap.size < w21.heap.size := by omega
  have hl_b3_21' : w6.heap.size < w21.heap.size := by omega
  have hl_b4_21' : w8.heap.size < w21.heap.size := by omega
  clear kb4_0_21 kb4_1_21 kb4_2_21 kb4_3_21 kb4_4_21 kb4_5_21 kb4_6_21 kb4_7_21
  go_wp2_with fail
  first | refine name_world ?_ | refine name_wp ?_
  intro W22 hW22
  have hp22 : Below w21.heap.size w21 W22 := by rw [hW22]; repeat' (first | (with_reducible exact Below.refl _ _) | (with_reducible refine Below.alloc ?_ ?_ _) | (with_reducible refine Below.setCell ?_ ?_ _) | (with_reducible refine Below.drew ?_) | (simp; done) | (simp; omega))
  have ow0_5_0_22 := Row2.below ow0_5_0_21' hp22 (by omega)
  have ow0_5_1_22 := Row2.below ow0_5_1_21' hp22 (by omega)
  have ow1_5_0_22 := Row2.below ow1_5_0_21' hp22 (by omega)
  have ot6_0_22 := Row2.below ot6_0_21' hp22 (by omega)
  have ot6_1_22 := Row2.below ot6_1_21' hp22 (by omega)
  have ot7_0_22 := Row2.below ot7_0_21' hp22 (by omega)
  have og0_8_0_22 := Row2.below og0_8_0_21' hp22 (by omega)
  have og0_8_1_22 := Row2.below og0_8_1_21' hp22 (by omega)
  have og1_8_0_22 := Row2.below og1_8_0_21' hp22 (by omega)
  clear ow0_5_0_21' ow0_5_1_21' ow1_5_0_21' ot6_0_21' ot6_1_21' ot7_0_21' og0_8_0_21' og0_8_1_21' og1_8_0_21'
  obtain ⟨kb1_0_22, kb1_1_22, kb1_2_22, kb1_3_22, kb1_4_22, kb1_5_22, kb1_6_22, kb1_7_22⟩ := keep8 hp22 (by show w.heap.size < _; omega) kb1_0_21' kb1_1_21' kb1_2_21' kb1_3_21' kb1_4_21' kb1_5_21' kb1_6_21' kb1_7_21'
  clear kb1_0_21' kb1_1_21' kb1_2_21' kb1_3_21' kb1_4_21' kb1_5_21' kb1_6_21' kb1_7_21'
  obtain ⟨kb2_0_22, kb2_1_22, kb2_2_22, kb2_3_22, kb2_4_22, kb2_5_22, kb2_6_22, kb2_7_22⟩ := keep8 hp22 (by show w5.heap.size < _; omega) kb2_0_21' kb2_1_21' kb2_2_21' kb2_3_21' kb2_4_21' kb2_5_21' kb2_6_21' kb2_7_21'
  clear kb2_0_21' kb2_1_21' kb2_2_21' kb2_3_21' kb2_4_21' kb2_5_21' kb2_6_21' kb2_7_21'
  obtain ⟨kb3_0_22, kb3_1_22, kb3_2_22, kb3_3_22, kb3_4_22, kb3_5_22, kb3_6_22, kb3_7_22⟩ := keep8 hp22 (by show w6.heap.size < _; omega) kb3_0_21' kb3_1_21' kb3_2_21' kb3_3_21' kb3_4_21' kb3_5_21' kb3_6_21' kb3_7_21'
  clear kb3_0_21' kb3_1_21' kb3_2_21' kb3_3_21' kb3_4_21' kb3_5_21' kb3_6_21' kb3_7_21'
  obtain ⟨kb4_0_22, kb4_1_22, kb4_2_22, kb4_3_22, kb4_4_22, kb4_5_22, kb4_6_22, kb4_7_22⟩ := keep8 hp22 (by show w8.heap.size < _; omega) kb4_0_21' kb4_1_21' kb4_2_21' kb4_3_21' kb4_4_21' kb4_5_21' kb4_6_21' kb4_7_21'
  have hB22 := hB21'.trans (hp22.mono hB21'.size)
  have hz22 : w21.heap.size ≤ W22.heap.size := hp22.size
  have hl_b1_22 : w.heap.size < W22.heap.size := by omega
  have hl_b2_22 : w5.heap.size < W22.heap.size := by omega
  have hl_b3_22 : w6.heap.size < W22.heap.size := by omega
  have hl_b4_22 : w8.heap.size < W22.heap.size := by omega
  have HW22 := Lib.hid hW22; clear hW22
  clear kb4_0_21' kb4_1_21' kb4_2_21' kb4_3_21' kb4_4_21' kb4_5_21' kb4_6_21' kb4_7_21'
  refine (heldIntS_2 Ar1_8 cr1_8 _ _ ((runActs v0 l1).2.length) (1 + (3 * ((runActs v0 l1).1.book.evs.length) + 3 * ((runActs v0 l1).1.rights.length))) _ (by omega) _ og1_8_0_22 (by first | omega | (simp; omega))).mono ?_
  rintro e w22 ⟨rfl, hb22⟩
  try simp only [Vg.val]
  have ow0_5_0_22' := Row2.below ow0_5_0_22 hb22 (by omega)
  have ow0_5_1_22' := Row2.below ow0_5_1_22 hb22 (by omega)
  have ow1_5_0_22' := Row2.below ow1_5_0_22 hb22 (by omega)
  have ot6_0_22' := Row2.below ot6_0_22 hb22 (by omega)
  have ot6_1_22' := Row2.below ot6_1_22 hb22 (by omega)
  have ot7_0_22' := Row2.below ot7_0_22 hb22 (by omega)
  have og0_8_0_22' := Row2.below og0_8_0_22 hb22 (by omega)
  have og0_8_1_22' := Row2.below og0_8_1_22 hb22 (by omega)
  have og1_8_0_22' := Row2.below og1_8_0_22 hb22 (by omega)
  clear ow0_5_0_22 ow0_5_1_22 ow1_5_0_22 ot6_0_22 ot6_1_22 ot7_0_22 og0_8_0_22 og0_8_1_22 og1_8_0_22
  obtain ⟨kb1_0_22', kb1_1_22', kb1_2_22', kb1_3_22', kb1_4_22', kb1_5_22', kb1_6_22', kb1_7_22'⟩ := keep8 hb22 (by show w.heap.size < _; omega) kb1_0_22 kb1_1_22 kb1_2_22 kb1_3_22 kb1_4_22 kb1_5_22 kb1_6_22 kb1_7_22
  clear kb1_0_22 kb1_1_22 kb1_2_22 kb1_3_22 kb1_4_22 kb1_5_22 kb1_6_22 kb1_7_22
  obtain ⟨kb2_0_22', kb2_1_22', kb2_2_22', kb2_3_22', kb2_4_22', kb2_5_22', kb2_6_22', kb2_7_22'⟩ := keep8 hb22 (by show w5.heap.size < _; omega) kb2_0_22 kb2_1_22 kb2_2_22 kb2_3_22 kb2_4_22 kb2_5_22 kb2_6_22 kb2_7_22
  clear kb2_0_22 kb2_1_22 kb2_2_22 kb2_3_22 kb2_4_22 kb2_5_22 kb2_6_22 kb2_7_22
  obtain ⟨kb3_0_22', kb3_1_22', kb3_2_22', kb3_3_22', kb3_4_22', kb3_5_22', kb3_6_22', kb3_7_22'⟩ := keep8 hb22 (by show w6.heap.size < _; omega) kb3_0_22 kb3_1_22 kb3_2_22 kb3_3_22 kb3_4_22 kb3_5_22 kb3_6_22 kb3_7_22
  clear kb3_0_22 kb3_1_22 kb3_2_22 kb3_3_22 kb3_4_22 kb3_5_22 kb3_6_22 kb3_7_22
  obtain ⟨kb4_0_22', kb4_1_22', kb4_2_22', kb4_3_22', kb4_4_22', kb4_5_22', kb4_6_22', kb4_7_22'⟩ := keep8 hb22 (by show w8.heap.size < _; omega) kb4_0_22 kb4_1_22 kb4_2_22 kb4_3_22 kb4_4_22 kb4_5_22 kb4_6_22 kb4_7_22
  have hB22' := hB22.trans (hb22.mono hB22.size)
  have hz22' : W22.heap.size ≤ w22.heap.size := hb22.size
  have hl_b1_22' : w.heap.size < w22.heap.size := by omega
  have hl_b2_22' : w5.heap.size < w22.heap.size := by omega
  have hl_b3_22' : w6.heap.size < w22.heap.size := by omega
  have hl_b4_22' : w8.heap.size < w22.heap.size := by omega
  clear kb4_0_22 kb4_1_22 kb4_2_22 kb4_3_22 kb4_4_22 kb4_5_22 kb4_6_22 kb4_7_22
  go_wp2_with fail
  first | refine name_world ?_ | refine name_wp ?_
  intro W23 hW23
  have hp23 : Below w22.heap.size w22 W23 := by rw [hW23]; repeat' (first | (with_reducible exact Below.refl _ _) | (with_reducible refine Below.alloc ?_ ?_ _) | (with_reducible refine Below.setCell ?_ ?_ _) | (with_reducible refine Below.drew ?_) | (simp; done) | (simp; omega))
  have ow0_5_0_23 := Row2.below ow0_5_0_22' hp23 (by omega)
  have ow0_5_1_23 := Row2.below ow0_5_1_22' hp23 (by omega)
  have ow1_5_0_23 := Row2.below ow1_5_0_22' hp23 (by omega)
  have ot6_0_23 := Row2.below ot6_0_22' hp23 (by omega)
  have ot6_1_23 := Row2.below ot6_1_22' hp23 (by omega)
  have ot7_0_23 := Row2.below ot7_0_22' hp23 (by omega)
  have og0_8_0_23 := Row2.below og0_8_0_22' hp23 (by omega)
  have og0_8_1_23 := Row2.below og0_8_1_22' hp23 (by omega)
  have og1_8_0_23 := Row2.below og1_8_0_22' hp23 (by omega)
  clear ow0_5_0_22' ow0_5_1_22' ow1_5_0_22' ot6_0_22' ot6_1_22' ot7_0_22' og0_8_0_22' og0_8_1_22' og1_8_0_22'
  obtain ⟨kb1_0_23, kb1_1_23, kb1_2_23, kb1_3_23, kb1_4_23, kb1_5_23, kb1_6_23, kb1_7_23⟩ := keep8 hp23 (by show w.heap.size < _; omega) kb1_0_22' kb1_1_22' kb1_2_22' kb1_3_22' kb1_4_22' kb1_5_22' kb1_6_22' kb1_7_22'
  clear kb1_0_22' kb1_1_22' kb1_2_22' kb1_3_22' kb1_4_22' kb1_5_22' kb1_6_22' kb1_7_22'
  obtain ⟨kb2_0_23, kb2_1_23, kb2_2_23, kb2_3_23, kb2_4_23, kb2_5_23, kb2_6_23, kb2_7_23⟩ := keep8 hp23 (by show w5.heap.size < _; omega) kb2_0_22' kb2_1_22' kb2_2_22' kb2_3_22' kb2_4_22' kb2_5_22' kb2_6_22' kb2_7_22'
  clear kb2_0_22' kb2_1_22' kb2_2_22' kb2_3_22' kb2_4_22' kb2_5_22' kb2_6_22' kb2_7_22'
  obtain ⟨kb3_0_23, kb3_1_23, kb3_2_23, kb3_3_23, kb3_4_23, kb3_5_23, kb3_6_23, kb3_7_23⟩ := keep8 hp23 (by show w6.heap.size < _; omega) kb3_0_22' kb3_1_22' kb3_2_22' kb3_3_22' kb3_4_22' kb3_5_22' kb3_6_22' kb3_7_22'
  clear kb3_0_22' kb3_1_22' kb3_2_22' kb3_3_22' kb3_4_22' kb3_5_22' kb3_6_22' kb3_7_22'
  obtain ⟨kb4_0_23, kb4_1_23, kb4_2_23, kb4_3_23, kb4_4_23, kb4_5_23, kb4_6_23, kb4_7_23⟩ := keep8 hp23 (by show w8.heap.size < _; omega) kb4_0_22' kb4_1_22' kb4_2_22' kb4_3_22' kb4_4_22' kb4_5_22' kb4_6_22' kb4_7_22'
  have hB23 := hB22'.trans (hp23.mono hB22'.size)
  have hz23 : w22.heap.size ≤ W23.heap.size := hp23.size
  have hl_b1_23 : w.heap.size < W23.heap.size := by omega
  have hl_b2_23 : w5.heap.size < W23.heap.size := by omega
  have hl_b3_23 : w6.heap.size < W23.heap.size := by omega
  have hl_b4_23 : w8.heap.size < W23.heap.size := by omega
  have HW23 := Lib.hid hW23; clear hW23
  clear kb4_0_22' kb4_1_22' kb4_2_22' kb4_3_22' kb4_4_22' kb4_5_22' kb4_6_22' kb4_7_22'
  refine (toVillage_any A0 c0 R0 d0 v0 _ (Rd.later h0_0 hB23) (Rd.later h0_1 hB23) hs0).mono ?_
  rintro e w23 ⟨A'23, c'23, R'23, d'23, rfl, ho0_23, ho1_23, hb23⟩
  try simp only [Vg.val]
  have ow0_5_0_23' := Row2.below ow0_5_0_23 hb23 (by omega)
  have ow0_5_1_23' := Row2.below ow0_5_1_23 hb23 (by omega)
  have ow1_5_0_23' := Row2.below ow1_5_0_23 hb23 (by omega)
  have ot6_0_23' := Row2.below ot6_0_23 hb23 (by omega)
  have ot6_1_23' := Row2.below ot6_1_23 hb23 (by omega)
  have ot7_0_23' := Row2.below ot7_0_23 hb23 (by omega)
  have og0_8_0_23' := Row2.below og0_8_0_23 hb23 (by omega)
  have og0_8_1_23' := Row2.below og0_8_1_23 hb23 (by omega)
  have og1_8_0_23' := Row2.below og1_8_0_23 hb23 (by omega)
  clear ow0_5_0_23 ow0_5_1_23 ow1_5_0_23 ot6_0_23 ot6_1_23 ot7_0_23 og0_8_0_23 og0_8_1_23 og1_8_0_23
  obtain ⟨kb1_0_23', kb1_1_23', kb1_2_23', kb1_3_23', kb1_4_23', kb1_5_23', kb1_6_23', kb1_7_23'⟩ := keep8 hb23 (by show w.heap.size < _; omega) kb1_0_23 kb1_1_23 kb1_2_23 kb1_3_23 kb1_4_23 kb1_5_23 kb1_6_23 kb1_7_23
  clear kb1_0_23 kb1_1_23 kb1_2_23 kb1_3_23 kb1_4_23 kb1_5_23 kb1_6_23 kb1_7_23
  obtain ⟨kb2_0_23', kb2_1_23', kb2_2_23', kb2_3_23', kb2_4_23', kb2_5_23', kb2_6_23', kb2_7_23'⟩ := keep8 hb23 (by show w5.heap.size < _; omega) kb2_0_23 kb2_1_23 kb2_2_23 kb2_3_23 kb2_4_23 kb2_5_23 kb2_6_23 kb2_7_23
  clear kb2_0_23 kb2_1_23 kb2_2_23 kb2_3_23 kb2_4_23 kb2_5_23 kb2_6_23 kb2_7_23
  obtain ⟨kb3_0_23', kb3_1_23', kb3_2_23', kb3_3_23', kb3_4_23', kb3_5_23', kb3_6_23', kb3_7_23'⟩ := keep8 hb23 (by show w6.heap.size < _; omega) kb3_0_23 kb3_1_23 kb3_2_23 kb3_3_23 kb3_4_23 kb3_5_23 kb3_6_23 kb3_7_23
  clear kb3_0_23 kb3_1_23 kb3_2_23 kb3_3_23 kb3_4_23 kb3_5_23 kb3_6_23 kb3_7_23
  obtain ⟨kb4_0_23', kb4_1_23', kb4_2_23', kb4_3_23', kb4_4_23', kb4_5_23', kb4_6_23', kb4_7_23'⟩ := keep8 hb23 (by show w8.heap.size < _; omega) kb4_0_23 kb4_1_23 kb4_2_23 kb4_3_23 kb4_4_23 kb4_5_23 kb4_6_23 kb4_7_23
  have hB23' := hB23.trans (hb23.mono hB23.size)
  have hz23' : W23.heap.size ≤ w23.heap.size := hb23.size
  have hl_b1_23' : w.heap.size < w23.heap.size := by omega
  have hl_b2_23' : w5.heap.size < w23.heap.size := by omega
  have hl_b3_23' : w6.heap.size < w23.heap.size := by omega
  have hl_b4_23' : w8.heap.size < w23.heap.size := by omega
  have ot23_0_n := Row2.born ho0_23
  have ot23_1_n := Row2.born ho1_23
  clear kb4_0_23 kb4_1_23 kb4_2_23 kb4_3_23 kb4_4_23 kb4_5_23 kb4_6_23 kb4_7_23 ho0_23 ho1_23
  go_wp2_with fail
  first | refine name_world ?_ | refine name_wp ?_
  intro W24 hW24
  have hp24 : Below w23.heap.size w23 W24 := by rw [hW24]; repeat' (first | (with_reducible exact Below.refl _ _) | (with_reducible refine Below.alloc ?_ ?_ _) | (with_reducible refine Below.setCell ?_ ?_ _) | (with_reducible refine Below.drew ?_) | (simp; done) | (simp; omega))
  have ow0_5_0_24 := Row2.below ow0_5_0_23' hp24 (by omega)
  have ow0_5_1_24 := Row2.below ow0_5_1_23' hp24 (by omega)
  have ow1_5_0_24 := Row2.below ow1_5_0_23' hp24 (by omega)
  have ot6_0_24 := Row2.below ot6_0_23' hp24 (by omega)
  have ot6_1_24 := Row2.below ot6_1_23' hp24 (by omega)
  have ot7_0_24 := Row2.below ot7_0_23' hp24 (by omega)
  have og0_8_0_24 := Row2.below og0_8_0_23' hp24 (by omega)
  have og0_8_1_24 := Row2.below og0_8_1_23' hp24 (by omega)
  have og1_8_0_24 := Row2.below og1_8_0_23' hp24 (by omega)
  have ot23_0_24 := Row2.below ot23_0_n hp24 (by omega)
  have ot23_1_24 := Row2.below ot23_1_n hp24 (by omega)
  clear ow0_5_0_23' ow0_5_1_23' ow1_5_0_23' ot6_0_23' ot6_1_23' ot7_0_23' og0_8_0_23' og0_8_1_23' og1_8_0_23' ot23_0_n ot23_1_n
  obtain ⟨kb1_0_24, kb1_1_24, kb1_2_24, kb1_3_24, kb1_4_24, kb1_5_24, kb1_6_24, kb1_7_24⟩ := keep8 hp24 (by show w.heap.size < _; omega) kb1_0_23' kb1_1_23' kb1_2_23' kb1_3_23' kb1_4_23' kb1_5_23' kb1_6_23' kb1_7_23'
  clear kb1_0_23' kb1_1_23' kb1_2_23' kb1_3_23' kb1_4_23' kb1_5_23' kb1_6_23' kb1_7_23'
  obtain ⟨kb2_0_24, kb2_1_24, kb2_2_24, kb2_3_24, kb2_4_24, kb2_5_24, kb2_6_24, kb2_7_24⟩ := keep8 hp24 (by show w5.heap.size < _; omega) kb2_0_23' kb2_1_23' kb2_2_23' kb2_3_23' kb2_4_23' kb2_5_23' kb2_6_23' kb2_7_23'
  clear kb2_0_23' kb2_1_23' kb2_2_23' kb2_3_23' kb2_4_23' kb2_5_23' kb2_6_23' kb2_7_23'
  obtain ⟨kb3_0_24, kb3_1_24, kb3_2_24, kb3_3_24, kb3_4_24, kb3_5_24, kb3_6_24, kb3_7_24⟩ := keep8 hp24 (by show w6.heap.size < _; omega) kb3_0_23' kb3_1_23' kb3_2_23' kb3_3_23' kb3_4_23' kb3_5_23' kb3_6_23' kb3_7_23'
  clear kb3_0_23' kb3_1_23' kb3_2_23' kb3_3_23' kb3_4_23' kb3_5_23' kb3_6_23' kb3_7_23'
  obtain ⟨kb4_0_24, kb4_1_24, kb4_2_24, kb4_3_24, kb4_4_24, kb4_5_24, kb4_6_24, kb4_7_24⟩ := keep8 hp24 (by show w8.heap.size < _; omega) kb4_0_23' kb4_1_23' kb4_2_23' kb4_3_23' kb4_4_23' kb4_5_23' kb4_6_23' kb4_7_23'
  have hB24 := hB23'.trans (hp24.mono hB23'.size)
  have hz24 : w23.heap.size ≤ W24.heap.size := hp24.size
  have hl_b1_24 : w.heap.size < W24.heap.size := by omega
  have hl_b2_24 : w5.heap.size < W24.heap.size := by omega
  have hl_b3_24 : w6.heap.size < W24.heap.size := by omega
  have hl_b4_24 : w8.heap.size < W24.heap.size := by omega
  have HW24 := Lib.hid hW24; clear hW24
  clear kb4_0_23' kb4_1_23' kb4_2_23' kb4_3_23' kb4_4_23' kb4_5_23' kb4_6_23' kb4_7_23'
  refine (toActS_any A1 c1 l1 _ (Rd.later h1_0 hB24) hs1).mono ?_
  rintro e w24 ⟨A'24, c'24, rfl, ho0_24, hb24⟩
  try simp only [Vg.val]
  have ow0_5_0_24' := Row2.below ow0_5_0_24 hb24 (by omega)
  have ow0_5_1_24' := Row2.below ow0_5_1_24 hb24 (by omega)
  have ow1_5_0_24' := Row2.below ow1_5_0_24 hb24 (by omega)
  have ot6_0_24' := Row2.below ot6_0_24 hb24 (by omega)
  have ot6_1_24' := Row2.below ot6_1_24 hb24 (by omega)
  have ot7_0_24' := Row2.below ot7_0_24 hb24 (by omega)
  have og0_8_0_24' := Row2.below og0_8_0_24 hb24 (by omega)
  have og0_8_1_24' := Row2.below og0_8_1_24 hb24 (by omega)
  have og1_8_0_24' := Row2.below og1_8_0_24 hb24 (by omega)
  have ot23_0_24' := Row2.below ot23_0_24 hb24 (by omega)
  have ot23_1_24' := Row2.below ot23_1_24 hb24 (by omega)
  clear ow0_5_0_24 ow0_5_1_24 ow1_5_0_24 ot6_0_24 ot6_1_24 ot7_0_24 og0_8_0_24 og0_8_1_24 og1_8_0_24 ot23_0_24 ot23_1_24
  obtain ⟨kb1_0_24', kb1_1_24', kb1_2_24', kb1_3_24', kb1_4_24', kb1_5_24', kb1_6_24', kb1_7_24'⟩ := keep8 hb24 (by show w.heap.size < _; omega) kb1_0_24 kb1_1_24 kb1_2_24 kb1_3_24 kb1_4_24 kb1_5_24 kb1_6_24 kb1_7_24
  clear kb1_0_24 kb1_1_24 kb1_2_24 kb1_3_24 kb1_4_24 kb1_5_24 kb1_6_24 kb1_7_24
  obtain ⟨kb2_0_24', kb2_1_24', kb2_2_24', kb2_3_24', kb2_4_24', kb2_5_24', kb2_6_24', kb2_7_24'⟩ := keep8 hb24 (by show w5.heap.size < _; omega) kb2_0_24 kb2_1_24 kb2_2_24 kb2_3_24 kb2_4_24 kb2_5_24 kb2_6_24 kb2_7_24
  clear kb2_0_24 kb2_1_24 kb2_2_24 kb2_3_24 kb2_4_24 kb2_5_24 kb2_6_24 kb2_7_24
  obtain ⟨kb3_0_24', kb3_1_24', kb3_2_24', kb3_3_24', kb3_4_24', kb3_5_24', kb3_6_24', kb3_7_24'⟩ := keep8 hb24 (by show w6.heap.size < _; omega) kb3_0_24 kb3_1_24 kb3_2_24 kb3_3_24 kb3_4_24 kb3_5_24 kb3_6_24 kb3_7_24
  clear kb3_0_24 kb3_1_24 kb3_2_24 kb3_3_24 kb3_4_24 kb3_5_24 kb3_6_24 kb3_7_24
  obtain ⟨kb4_0_24', kb4_1_24', kb4_2_24', kb4_3_24', kb4_4_24', kb4_5_24', kb4_6_24', kb4_7_24'⟩ := keep8 hb24 (by show w8.heap.size < _; omega) kb4_0_24 kb4_1_24 kb4_2_24 kb4_3_24 kb4_4_24 kb4_5_24 kb4_6_24 kb4_7_24
  have hB24' := hB24.trans (hb24.mono hB24.size)
  have hz24' : W24.heap.size ≤ w24.heap.size := hb24.size
  have hl_b1_24' : w.heap.size < w24.heap.size := by omega
  have hl_b2_24' : w5.heap.size < w24.heap.size := by omega
  have hl_b3_24' : w6.heap.size < w24.heap.size := by omega
  have hl_b4_24' : w8.heap.size < w24.heap.size := by omega
  have ot24_0_n := Row2.born ho0_24
  clear kb4_0_24 kb4_1_24 kb4_2_24 kb4_3_24 kb4_4_24 kb4_5_24 kb4_6_24 kb4_7_24 ho0_24
  go_wp2_with fail
  first | refine name_world ?_ | refine name_wp ?_
  intro W25 hW25
  have hp25 : Below w24.heap.size w24 W25 := by rw [hW25]; repeat' (first | (with_reducible exact Below.refl _ _) | (with_reducible refine Below.alloc ?_ ?_ _) | (with_reducible refine Below.setCell ?_ ?_ _) | (with_reducible refine Below.drew ?_) | (simp; done) | (simp; omega))
  have ow0_5_0_25 := Row2.below ow0_5_0_24' hp25 (by omega)
  have ow0_5_1_25 := Row2.below ow0_5_1_24' hp25 (by omega)
  have ow1_5_0_25 := Row2.below ow1_5_0_24' hp25 (by omega)
  have ot6_0_25 := Row2.below ot6_0_24' hp25 (by omega)
  have ot6_1_25 := Row2.below ot6_1_24' hp25 (by omega)
  have ot7_0_25 := Row2.below ot7_0_24' hp25 (by omega)
  have og0_8_0_25 := Row2.below og0_8_0_24' hp25 (by omega)
  have og0_8_1_25 := Row2.below og0_8_1_24' hp25 (by omega)
  have og1_8_0_25 := Row2.below og1_8_0_24' hp25 (by omega)
  have ot23_0_25 := Row2.below ot23_0_24' hp25 (by omega)
  have ot23_1_25 := Row2.below ot23_1_24' hp25 (by omega)
  have ot24_0_25 := Row2.below ot24_0_n hp25 (by omega)
  clear ow0_5_0_24' ow0_5_1_24' ow1_5_0_24' ot6_0_24' ot6_1_24' ot7_0_24' og0_8_0_24' og0_8_1_24' og1_8_0_24' ot23_0_24' ot23_1_24' ot24_0_n
  obtain ⟨kb1_0_25, kb1_1_25, kb1_2_25, kb1_3_25, kb1_4_25, kb1_5_25, kb1_6_25, kb1_7_25⟩ := keep8 hp25 (by show w.heap.size < _; omega) kb1_0_24' kb1_1_24' kb1_2_24' kb1_3_24' kb1_4_24' kb1_5_24' kb1_6_24' kb1_7_24'
  clear kb1_0_24' kb1_1_24' kb1_2_24' kb1_3_24' kb1_4_24' kb1_5_24' kb1_6_24' kb1_7_24'
  obtain ⟨kb2_0_25, kb2_1_25, kb2_2_25, kb2_3_25, kb2_4_25, kb2_5_25, kb2_6_25, kb2_7_25⟩ := keep8 hp25 (by show w5.heap.size < _; omega) kb2_0_24' kb2_1_24' kb2_2_24' kb2_3_24' kb2_4_24' kb2_5_24' kb2_6_24' kb2_7_24'
  clear kb2_0_24' kb2_1_24' kb2_2_24' kb2_3_24' kb2_4_24' kb2_5_24' kb2_6_24' kb2_7_24'
  obtain ⟨kb3_0_25, kb3_1_25, kb3_2_25, kb3_3_25, kb3_4_25, kb3_5_25, kb3_6_25, kb3_7_25⟩ := keep8 hp25 (by show w6.heap.size < _; omega) kb3_0_24' kb3_1_24' kb3_2_24' kb3_3_24' kb3_4_24' kb3_5_24' kb3_6_24' kb3_7_24'
  clear kb3_0_24' kb3_1_24' kb3_2_24' kb3_3_24' kb3_4_24' kb3_5_24' kb3_6_24' kb3_7_24'
  obtain ⟨kb4_0_25, kb4_1_25, kb4_2_25, kb4_3_25, kb4_4_25, kb4_5_25, kb4_6_25, kb4_7_25⟩ := keep8 hp25 (by show w8.heap.size < _; omega) kb4_0_24' kb4_1_24' kb4_2_24' kb4_3_24' kb4_4_24' kb4_5_24' kb4_6_24' kb4_7_24'
  have hB25 := hB24'.trans (hp25.mono hB24'.size)
  have hz25 : w24.heap.size ≤ W25.heap.size := hp25.size
  have hl_b1_25 : w.heap.size < W25.heap.size := by omega
  have hl_b2_25 : w5.heap.size < W25.heap.size := by omega
  have hl_b3_25 : w6.heap.size < W25.heap.size := by omega
  have hl_b4_25 : w8.heap.size < W25.heap.size := by omega
  have HW25 := Lib.hid hW25; clear hW25
  clear kb4_0_24' kb4_1_24' kb4_2_24' kb4_3_24' kb4_4_24' kb4_5_24' kb4_6_24' kb4_7_24'
  refine (RunActs_any A'23 c'23 R'23 d'23 v0 A'24 c'24 l1 _ ot23_0_25.rd ot23_1_25.rd ot24_0_25.rd (by omega)).mono ?_
  rintro e w25 ⟨Ar0_25, cr0_25, Rr0_25, dr0_25, Ar1_25, cr1_25, rfl, lo_25, hi_25, lp_25, hq_25, hs1_25, hs2_25, hs3_25, hs4_25, hs5_25, ho0_25, ho1_25, ho2_25, hb25⟩
  try simp only [Vg.val]
  have ow0_5_0_25' := Row2.below ow0_5_0_25 hb25 (by omega)
  have ow0_5_1_25' := Row2.below ow0_5_1_25 hb25 (by omega)
  have ow1_5_0_25' := Row2.below ow1_5_0_25 hb25 (by omega)
  have ot6_0_25' := Row2.below ot6_0_25 hb25 (by omega)
  have ot6_1_25' := Row2.below ot6_1_25 hb25 (by omega)
  have ot7_0_25' := Row2.below ot7_0_25 hb25 (by omega)
  have og0_8_0_25' := Row2.below og0_8_0_25 hb25 (by omega)
  have og0_8_1_25' := Row2.below og0_8_1_25 hb25 (by omega)
  have og1_8_0_25' := Row2.below og1_8_0_25 hb25 (by omega)
  have ot23_0_25' := Row2.below ot23_0_25 hb25 (by omega)
  have ot23_1_25' := Row2.below ot23_1_25 hb25 (by omega)
  have ot24_0_25' := Row2.below ot24_0_25 hb25 (by omega)
  clear ow0_5_0_25 ow0_5_1_25 ow1_5_0_25 ot6_0_25 ot6_1_25 ot7_0_25 og0_8_0_25 og0_8_1_25 og1_8_0_25 ot23_0_25 ot23_1_25 ot24_0_25
  obtain ⟨kb1_0_25', kb1_1_25', kb1_2_25', kb1_3_25', kb1_4_25', kb1_5_25', kb1_6_25', kb1_7_25'⟩ := keep8 hb25 (by show w.heap.size < _; omega) kb1_0_25 kb1_1_25 kb1_2_25 kb1_3_25 kb1_4_25 kb1_5_25 kb1_6_25 kb1_7_25
  clear kb1_0_25 kb1_1_25 kb1_2_25 kb1_3_25 kb1_4_25 kb1_5_25 kb1_6_25 kb1_7_25
  obtain ⟨kb2_0_25', kb2_1_25', kb2_2_25', kb2_3_25', kb2_4_25', kb2_5_25', kb2_6_25', kb2_7_25'⟩ := keep8 hb25 (by show w5.heap.size < _; omega) kb2_0_25 kb2_1_25 kb2_2_25 kb2_3_25 kb2_4_25 kb2_5_25 kb2_6_25 kb2_7_25
  clear kb2_0_25 kb2_1_25 kb2_2_25 kb2_3_25 kb2_4_25 kb2_5_25 kb2_6_25 kb2_7_25
  obtain ⟨kb3_0_25', kb3_1_25', kb3_2_25', kb3_3_25', kb3_4_25', kb3_5_25', kb3_6_25', kb3_7_25'⟩ := keep8 hb25 (by show w6.heap.size < _; omega) kb3_0_25 kb3_1_25 kb3_2_25 kb3_3_25 kb3_4_25 kb3_5_25 kb3_6_25 kb3_7_25
  clear kb3_0_25 kb3_1_25 kb3_2_25 kb3_3_25 kb3_4_25 kb3_5_25 kb3_6_25 kb3_7_25
  obtain ⟨kb4_0_25', kb4_1_25', kb4_2_25', kb4_3_25', kb4_4_25', kb4_5_25', kb4_6_25', kb4_7_25'⟩ := keep8 hb25 (by show w8.heap.size < _; omega) kb4_0_25 kb4_1_25 kb4_2_25 kb4_3_25 kb4_4_25 kb4_5_25 kb4_6_25 kb4_7_25
  have hB25' := hB25.trans (hb25.mono hB25.size)
  have hz25' : W25.heap.size ≤ w25.heap.size := hb25.size
  have hl_b1_25' : w.heap.size < w25.heap.size := by omega
  have hl_b2_25' : w5.heap.size < w25.heap.size := by omega
  have hl_b3_25' : w6.heap.size < w25.heap.size := by omega
  have hl_b4_25' : w8.heap.size < w25.heap.size := by omega
  have oh0_25_0_n := ho0_25
  have oh0_25_1_n := ho1_25
  have oh1_25_0_n := ho2_25
  clear kb4_0_25 kb4_1_25 kb4_2_25 kb4_3_25 kb4_4_25 kb4_5_25 kb4_6_25 kb4_7_25 ho0_25 ho1_25 ho2_25
  go_wp2_with fail
  first | refine name_world ?_ | refine name_wp ?_
  intro W26 hW26
  have hp26 : Below w25.heap.size w25 W26 := by rw [hW26]; repeat' (first | (with_reducible exact Below.refl _ _) | (with_reducible refine Below.alloc ?_ ?_ _) | (with_reducible refine Below.setCell ?_ ?_ _) | (with_reducible refine Below.drew ?_) | (simp; done) | (simp; omega))
  have kb5_0_26 : W26.cell? ⟨w25.heap.size, 0, none⟩ = some (.int .i64 (runActs v0 l1).1.book.room) := by rw [hW26]; simp [go_sem]
  have kb5_1_26 : W26.cell? ⟨w25.heap.size, 1, none⟩ = some (.int .i64 (runActs v0 l1).1.book.start) := by rw [hW26]; simp [go_sem]
  have kb5_2_26 : W26.cell? ⟨w25.heap.size, 2, none⟩ = some (.slice Ar0_25 (runActs v0 l1).1.book.evs.length cr0_25) := by rw [hW26]; simp [go_sem]
  have kb5_3_26 : W26.cell? ⟨w25.heap.size, 3, none⟩ = some (.int .i64 (runActs v0 l1).1.book.level) := by rw [hW26]; simp [go_sem]
  have kb5_4_26 : W26.cell? ⟨w25.heap.size, 4, none⟩ = some (.int .i64 (runActs v0 l1).1.book.rained) := by rw [hW26]; simp [go_sem]
  have kb5_5_26 : W26.cell? ⟨w25.heap.size, 5, none⟩ = some (.int .i64 (runActs v0 l1).1.book.drunk) := by rw [hW26]; simp [go_sem]
  have kb5_6_26 : W26.cell? ⟨w25.heap.size, 6, none⟩ = some (.int .i64 (runActs v0 l1).1.book.lost) := by rw [hW26]; simp [go_sem]
  have kb5_7_26 : W26.cell? ⟨w25.heap.size, 7, none⟩ = some (.slice Rr0_25 (runActs v0 l1).1.rights.length dr0_25) := by rw [hW26]; simp [go_sem]
  have hl_b5 : w25.heap.size < W26.heap.size := by rw [hW26]; first | (simp; done) | (simp; omega)
  have ow0_5_0_26 := Row2.below ow0_5_0_25' hp26 (by omega)
  have ow0_5_1_26 := Row2.below ow0_5_1_25' hp26 (by omega)
  have ow1_5_0_26 := Row2.below ow1_5_0_25' hp26 (by omega)
  have ot6_0_26 := Row2.below ot6_0_25' hp26 (by omega)
  have ot6_1_26 := Row2.below ot6_1_25' hp26 (by omega)
  have ot7_0_26 := Row2.below ot7_0_25' hp26 (by omega)
  have og0_8_0_26 := Row2.below og0_8_0_25' hp26 (by omega)
  have og0_8_1_26 := Row2.below og0_8_1_25' hp26 (by omega)
  have og1_8_0_26 := Row2.below og1_8_0_25' hp26 (by omega)
  have oh0_25_0_26 := Row2.below oh0_25_0_n hp26 (by omega)
  have oh0_25_1_26 := Row2.below oh0_25_1_n hp26 (by omega)
  have oh1_25_0_26 := Row2.below oh1_25_0_n hp26 (by omega)
  clear ow0_5_0_25' ow0_5_1_25' ow1_5_0_25' ot6_0_25' ot6_1_25' ot7_0_25' og0_8_0_25' og0_8_1_25' og1_8_0_25' oh0_25_0_n oh0_25_1_n oh1_25_0_n
  obtain ⟨kb1_0_26, kb1_1_26, kb1_2_26, kb1_3_26, kb1_4_26, kb1_5_26, kb1_6_26, kb1_7_26⟩ := keep8 hp26 (by show w.heap.size < _; omega) kb1_0_25' kb1_1_25' kb1_2_25' kb1_3_25' kb1_4_25' kb1_5_25' kb1_6_25' kb1_7_25'
  clear kb1_0_25' kb1_1_25' kb1_2_25' kb1_3_25' kb1_4_25' kb1_5_25' kb1_6_25' kb1_7_25'
  obtain ⟨kb2_0_26, kb2_1_26, kb2_2_26, kb2_3_26, kb2_4_26, kb2_5_26, kb2_6_26, kb2_7_26⟩ := keep8 hp26 (by show w5.heap.size < _; omega) kb2_0_25' kb2_1_25' kb2_2_25' kb2_3_25' kb2_4_25' kb2_5_25' kb2_6_25' kb2_7_25'
  clear kb2_0_25' kb2_1_25' kb2_2_25' kb2_3_25' kb2_4_25' kb2_5_25' kb2_6_25' kb2_7_25'
  obtain ⟨kb3_0_26, kb3_1_26, kb3_2_26, kb3_3_26, kb3_4_26, kb3_5_26, kb3_6_26, kb3_7_26⟩ := keep8 hp26 (by show w6.heap.size < _; omega) kb3_0_25' kb3_1_25' kb3_2_25' kb3_3_25' kb3_4_25' kb3_5_25' kb3_6_25' kb3_7_25'
  clear kb3_0_25' kb3_1_25' kb3_2_25' kb3_3_25' kb3_4_25' kb3_5_25' kb3_6_25' kb3_7_25'
  obtain ⟨kb4_0_26, kb4_1_26, kb4_2_26, kb4_3_26, kb4_4_26, kb4_5_26, kb4_6_26, kb4_7_26⟩ := keep8 hp26 (by show w8.heap.size < _; omega) kb4_0_25' kb4_1_25' kb4_2_25' kb4_3_25' kb4_4_25' kb4_5_25' kb4_6_25' kb4_7_25'
  have hB26 := hB25'.trans (hp26.mono hB25'.size)
  have hz26 : w25.heap.size ≤ W26.heap.size := hp26.size
  have hl_b1_26 : w.heap.size < W26.heap.size := by omega
  have hl_b2_26 : w5.heap.size < W26.heap.size := by omega
  have hl_b3_26 : w6.heap.size < W26.heap.size := by omega
  have hl_b4_26 : w8.heap.size < W26.heap.size := by omega
  have HW26 := Lib.hid hW26; clear hW26
  clear kb4_0_25' kb4_1_25' kb4_2_25' kb4_3_25' kb4_4_25' kb4_5_25' kb4_6_25' kb4_7_25'
  refine (eqVillage_same Ar0_25 cr0_25 Rr0_25 dr0_25 Ar0_5 cr0_5 Rr0_5 dr0_5 ((runActs v0 l1).1) _ oh0_25_0_26.rd oh0_25_1_26.rd ow0_5_0_26.rd ow0_5_1_26.rd).mono ?_
  rintro e w26 ⟨rfl, hb26⟩
  try simp only [Vg.val]
  have ow0_5_0_26' := Row2.below ow0_5_0_26 hb26 (by omega)
  have ow0_5_1_26' := Row2.below ow0_5_1_26 hb26 (by omega)
  have ow1_5_0_26' := Row2.below ow1_5_0_26 hb26 (by omega)
  have ot6_0_26' := Row2.below ot6_0_26 hb26 (by omega)
  have ot6_1_26' := Row2.below ot6_1_26 hb26 (by omega)
  have ot7_0_26' := Row2.below ot7_0_26 hb26 (by omega)
  have og0_8_0_26' := Row2.below og0_8_0_26 hb26 (by omega)
  have og0_8_1_26' := Row2.below og0_8_1_26 hb26 (by omega)
  have og1_8_0_26' := Row2.below og1_8_0_26 hb26 (by omega)
  have oh0_25_0_26' := Row2.below oh0_25_0_26 hb26 (by omega)
  have oh0_25_1_26' := Row2.below oh0_25_1_26 hb26 (by omega)
  have oh1_25_0_26' := Row2.below oh1_25_0_26 hb26 (by omega)
  clear ow0_5_0_26 ow0_5_1_26 ow1_5_0_26 ot6_0_26 ot6_1_26 ot7_0_26 og0_8_0_26 og0_8_1_26 og1_8_0_26 oh0_25_0_26 oh0_25_1_26 oh1_25_0_26
  obtain ⟨kb1_0_26', kb1_1_26', kb1_2_26', kb1_3_26', kb1_4_26', kb1_5_26', kb1_6_26', kb1_7_26'⟩ := keep8 hb26 (by show w.heap.size < _; omega) kb1_0_26 kb1_1_26 kb1_2_26 kb1_3_26 kb1_4_26 kb1_5_26 kb1_6_26 kb1_7_26
  clear kb1_0_26 kb1_1_26 kb1_2_26 kb1_3_26 kb1_4_26 kb1_5_26 kb1_6_26 kb1_7_26
  obtain ⟨kb2_0_26', kb2_1_26', kb2_2_26', kb2_3_26', kb2_4_26', kb2_5_26', kb2_6_26', kb2_7_26'⟩ := keep8 hb26 (by show w5.heap.size < _; omega) kb2_0_26 kb2_1_26 kb2_2_26 kb2_3_26 kb2_4_26 kb2_5_26 kb2_6_26 kb2_7_26
  clear kb2_0_26 kb2_1_26 kb2_2_26 kb2_3_26 kb2_4_26 kb2_5_26 kb2_6_26 kb2_7_26
  obtain ⟨kb3_0_26', kb3_1_26', kb3_2_26', kb3_3_26', kb3_4_26', kb3_5_26', kb3_6_26', kb3_7_26'⟩ := keep8 hb26 (by show w6.heap.size < _; omega) kb3_0_26 kb3_1_26 kb3_2_26 kb3_3_26 kb3_4_26 kb3_5_26 kb3_6_26 kb3_7_26
  clear kb3_0_26 kb3_1_26 kb3_2_26 kb3_3_26 kb3_4_26 kb3_5_26 kb3_6_26 kb3_7_26
  obtain ⟨kb4_0_26', kb4_1_26', kb4_2_26', kb4_3_26', kb4_4_26', kb4_5_26', kb4_6_26', kb4_7_26'⟩ := keep8 hb26 (by show w8.heap.size < _; omega) kb4_0_26 kb4_1_26 kb4_2_26 kb4_3_26 kb4_4_26 kb4_5_26 kb4_6_26 kb4_7_26
  clear kb4_0_26 kb4_1_26 kb4_2_26 kb4_3_26 kb4_4_26 kb4_5_26 kb4_6_26 kb4_7_26
  obtain ⟨kb5_0_26', kb5_1_26', kb5_2_26', kb5_3_26', kb5_4_26', kb5_5_26', kb5_6_26', kb5_7_26'⟩ := keep8 hb26 (by show w25.heap.size < _; omega) kb5_0_26 kb5_1_26 kb5_2_26 kb5_3_26 kb5_4_26 kb5_5_26 kb5_6_26 kb5_7_26
  have hB26' := hB26.trans (hb26.mono hB26.size)
  have hz26' : W26.heap.size ≤ w26.heap.size := hb26.size
  have hl_b1_26' : w.heap.size < w26.heap.size := by omega
  have hl_b2_26' : w5.heap.size < w26.heap.size := by omega
  have hl_b3_26' : w6.heap.size < w26.heap.size := by omega
  have hl_b4_26' : w8.heap.size < w26.heap.size := by omega
  have hl_b5_26' : w25.heap.size < w26.heap.size := by omega
  clear kb5_0_26 kb5_1_26 kb5_2_26 kb5_3_26 kb5_4_26 kb5_5_26 kb5_6_26 kb5_7_26
  go_wp2_with fail
  first | refine name_world ?_ | refine name_wp ?_
  intro W27 hW27
  have hp27 : Below w26.heap.size w26 W27 := by rw [hW27]; repeat' (first | (with_reducible exact Below.refl _ _) | (with_reducible refine Below.alloc ?_ ?_ _) | (with_reducible refine Below.setCell ?_ ?_ _) | (with_reducible refine Below.drew ?_) | (simp; done) | (simp; omega))
  have ow0_5_0_27 := Row2.below ow0_5_0_26' hp27 (by omega)
  have ow0_5_1_27 := Row2.below ow0_5_1_26' hp27 (by omega)
  have ow1_5_0_27 := Row2.below ow1_5_0_26' hp27 (by omega)
  have ot6_0_27 := Row2.below ot6_0_26' hp27 (by omega)
  have ot6_1_27 := Row2.below ot6_1_26' hp27 (by omega)
  have ot7_0_27 := Row2.below ot7_0_26' hp27 (by omega)
  have og0_8_0_27 := Row2.below og0_8_0_26' hp27 (by omega)
  have og0_8_1_27 := Row2.below og0_8_1_26' hp27 (by omega)
  have og1_8_0_27 := Row2.below og1_8_0_26' hp27 (by omega)
  have oh0_25_0_27 := Row2.below oh0_25_0_26' hp27 (by omega)
  have oh0_25_1_27 := Row2.below oh0_25_1_26' hp27 (by omega)
  have oh1_25_0_27 := Row2.below oh1_25_0_26' hp27 (by omega)
  clear ow0_5_0_26' ow0_5_1_26' ow1_5_0_26' ot6_0_26' ot6_1_26' ot7_0_26' og0_8_0_26' og0_8_1_26' og1_8_0_26' oh0_25_0_26' oh0_25_1_26' oh1_25_0_26'
  obtain ⟨kb1_0_27, kb1_1_27, kb1_2_27, kb1_3_27, kb1_4_27, kb1_5_27, kb1_6_27, kb1_7_27⟩ := keep8 hp27 (by show w.heap.size < _; omega) kb1_0_26' kb1_1_26' kb1_2_26' kb1_3_26' kb1_4_26' kb1_5_26' kb1_6_26' kb1_7_26'
  clear kb1_0_26' kb1_1_26' kb1_2_26' kb1_3_26' kb1_4_26' kb1_5_26' kb1_6_26' kb1_7_26'
  obtain ⟨kb2_0_27, kb2_1_27, kb2_2_27, kb2_3_27, kb2_4_27, kb2_5_27, kb2_6_27, kb2_7_27⟩ := keep8 hp27 (by show w5.heap.size < _; omega) kb2_0_26' kb2_1_26' kb2_2_26' kb2_3_26' kb2_4_26' kb2_5_26' kb2_6_26' kb2_7_26'
  clear kb2_0_26' kb2_1_26' kb2_2_26' kb2_3_26' kb2_4_26' kb2_5_26' kb2_6_26' kb2_7_26'
  obtain ⟨kb3_0_27, kb3_1_27, kb3_2_27, kb3_3_27, kb3_4_27, kb3_5_27, kb3_6_27, kb3_7_27⟩ := keep8 hp27 (by show w6.heap.size < _; omega) kb3_0_26' kb3_1_26' kb3_2_26' kb3_3_26' kb3_4_26' kb3_5_26' kb3_6_26' kb3_7_26'
  clear kb3_0_26' kb3_1_26' kb3_2_26' kb3_3_26' kb3_4_26' kb3_5_26' kb3_6_26' kb3_7_26'
  obtain ⟨kb4_0_27, kb4_1_27, kb4_2_27, kb4_3_27, kb4_4_27, kb4_5_27, kb4_6_27, kb4_7_27⟩ := keep8 hp27 (by show w8.heap.size < _; omega) kb4_0_26' kb4_1_26' kb4_2_26' kb4_3_26' kb4_4_26' kb4_5_26' kb4_6_26' kb4_7_26'
  clear kb4_0_26' kb4_1_26' kb4_2_26' kb4_3_26' kb4_4_26' kb4_5_26' kb4_6_26' kb4_7_26'
  obtain ⟨kb5_0_27, kb5_1_27, kb5_2_27, kb5_3_27, kb5_4_27, kb5_5_27, kb5_6_27, kb5_7_27⟩ := keep8 hp27 (by show w25.heap.size < _; omega) kb5_0_26' kb5_1_26' kb5_2_26' kb5_3_26' kb5_4_26' kb5_5_26' kb5_6_26' kb5_7_26'
  have hB27 := hB26'.trans (hp27.mono hB26'.size)
  have hz27 : w26.heap.size ≤ W27.heap.size := hp27.size
  have hl_b1_27 : w.heap.size < W27.heap.size := by omega
  have hl_b2_27 : w5.heap.size < W27.heap.size := by omega
  have hl_b3_27 : w6.heap.size < W27.heap.size := by omega
  have hl_b4_27 : w8.heap.size < W27.heap.size := by omega
  have hl_b5_27 : w25.heap.size < W27.heap.size := by omega
  have HW27 := Lib.hid hW27; clear hW27
  clear kb5_0_26' kb5_1_26' kb5_2_26' kb5_3_26' kb5_4_26' kb5_5_26' kb5_6_26' kb5_7_26'
  refine (eqIntS_same Ar1_25 cr1_25 Ar1_5 cr1_5 ((runActs v0 l1).2) _ oh1_25_0_27.rd ow1_5_0_27.rd).mono ?_
  rintro e w27 ⟨rfl, hb27⟩
  try simp only [Vg.val]
  have ow0_5_0_27' := Row2.below ow0_5_0_27 hb27 (by omega)
  have ow0_5_1_27' := Row2.below ow0_5_1_27 hb27 (by omega)
  have ow1_5_0_27' := Row2.below ow1_5_0_27 hb27 (by omega)
  have ot6_0_27' := Row2.below ot6_0_27 hb27 (by omega)
  have ot6_1_27' := Row2.below ot6_1_27 hb27 (by omega)
  have ot7_0_27' := Row2.below ot7_0_27 hb27 (by omega)
  have og0_8_0_27' := Row2.below og0_8_0_27 hb27 (by omega)
  have og0_8_1_27' := Row2.below og0_8_1_27 hb27 (by omega)
  have og1_8_0_27' := Row2.below og1_8_0_27 hb27 (by omega)
  have oh0_25_0_27' := Row2.below oh0_25_0_27 hb27 (by omega)
  have oh0_25_1_27' := Row2.below oh0_25_1_27 hb27 (by omega)
  have oh1_25_0_27' := Row2.below oh1_25_0_27 hb27 (by omega)
  clear ow0_5_0_27 ow0_5_1_27 ow1_5_0_27 ot6_0_27 ot6_1_27 ot7_0_27 og0_8_0_27 og0_8_1_27 og1_8_0_27 oh0_25_0_27 oh0_25_1_27 oh1_25_0_27
  obtain ⟨kb1_0_27', kb1_1_27', kb1_2_27', kb1_3_27', kb1_4_27', kb1_5_27', kb1_6_27', kb1_7_27'⟩ := keep8 hb27 (by show w.heap.size < _; omega) kb1_0_27 kb1_1_27 kb1_2_27 kb1_3_27 kb1_4_27 kb1_5_27 kb1_6_27 kb1_7_27
  clear kb1_0_27 kb1_1_27 kb1_2_27 kb1_3_27 kb1_4_27 kb1_5_27 kb1_6_27 kb1_7_27
  obtain ⟨kb2_0_27', kb2_1_27', kb2_2_27', kb2_3_27', kb2_4_27', kb2_5_27', kb2_6_27', kb2_7_27'⟩ := keep8 hb27 (by show w5.heap.size < _; omega) kb2_0_27 kb2_1_27 kb2_2_27 kb2_3_27 kb2_4_27 kb2_5_27 kb2_6_27 kb2_7_27
  clear kb2_0_27 kb2_1_27 kb2_2_27 kb2_3_27 kb2_4_27 kb2_5_27 kb2_6_27 kb2_7_27
  obtain ⟨kb3_0_27', kb3_1_27', kb3_2_27', kb3_3_27', kb3_4_27', kb3_5_27', kb3_6_27', kb3_7_27'⟩ := keep8 hb27 (by show w6.heap.size < _; omega) kb3_0_27 kb3_1_27 kb3_2_27 kb3_3_27 kb3_4_27 kb3_5_27 kb3_6_27 kb3_7_27
  clear kb3_0_27 kb3_1_27 kb3_2_27 kb3_3_27 kb3_4_27 kb3_5_27 kb3_6_27 kb3_7_27
  obtain ⟨kb4_0_27', kb4_1_27', kb4_2_27', kb4_3_27', kb4_4_27', kb4_5_27', kb4_6_27', kb4_7_27'⟩ := keep8 hb27 (by show w8.heap.size < _; omega) kb4_0_27 kb4_1_27 kb4_2_27 kb4_3_27 kb4_4_27 kb4_5_27 kb4_6_27 kb4_7_27
  clear kb4_0_27 kb4_1_27 kb4_2_27 kb4_3_27 kb4_4_27 kb4_5_27 kb4_6_27 kb4_7_27
  obtain ⟨kb5_0_27', kb5_1_27', kb5_2_27', kb5_3_27', kb5_4_27', kb5_5_27', kb5_6_27', kb5_7_27'⟩ := keep8 hb27 (by show w25.heap.size < _; omega) kb5_0_27 kb5_1_27 kb5_2_27 kb5_3_27 kb5_4_27 kb5_5_27 kb5_6_27 kb5_7_27
  have hB27' := hB27.trans (hb27.mono hB27.size)
  have hz27' : W27.heap.size ≤ w27.heap.size := hb27.size
  have hl_b1_27' : w.heap.size < w27.heap.size := by omega
  have hl_b2_27' : w5.heap.size < w27.heap.size := by omega
  have hl_b3_27' : w6.heap.size < w27.heap.size := by omega
  have hl_b4_27' : w8.heap.size < w27.heap.size := by omega
  have hl_b5_27' : w25.heap.size < w27.heap.size := by omega
  clear kb5_0_27 kb5_1_27 kb5_2_27 kb5_3_27 kb5_4_27 kb5_5_27 kb5_6_27 kb5_7_27
  go_wp2_with fail
  first | refine name_world ?_ | refine name_wp ?_
  intro W28 hW28
  have hp28 : Below w27.heap.size w27 W28 := by rw [hW28]; repeat' (first | (with_reducible exact Below.refl _ _) | (with_reducible refine Below.alloc ?_ ?_ _) | (with_reducible refine Below.setCell ?_ ?_ _) | (with_reducible refine Below.drew ?_) | (simp; done) | (simp; omega))
  have ow0_5_0_28 := Row2.below ow0_5_0_27' hp28 (by omega)
  have ow0_5_1_28 := Row2.below ow0_5_1_27' hp28 (by omega)
  have ow1_5_0_28 := Row2.below ow1_5_0_27' hp28 (by omega)
  have ot6_0_28 := Row2.below ot6_0_27' hp28 (by omega)
  have ot6_1_28 := Row2.below ot6_1_27' hp28 (by omega)
  have ot7_0_28 := Row2.below ot7_0_27' hp28 (by omega)
  have og0_8_0_28 := Row2.below og0_8_0_27' hp28 (by omega)
  have og0_8_1_28 := Row2.below og0_8_1_27' hp28 (by omega)
  have og1_8_0_28 := Row2.below og1_8_0_27' hp28 (by omega)
  have oh0_25_0_28 := Row2.below oh0_25_0_27' hp28 (by omega)
  have oh0_25_1_28 := Row2.below oh0_25_1_27' hp28 (by omega)
  have oh1_25_0_28 := Row2.below oh1_25_0_27' hp28 (by omega)
  clear ow0_5_0_27' ow0_5_1_27' ow1_5_0_27' ot6_0_27' ot6_1_27' ot7_0_27' og0_8_0_27' og0_8_1_27' og1_8_0_27' oh0_25_0_27' oh0_25_1_27' oh1_25_0_27'
  obtain ⟨kb1_0_28, kb1_1_28, kb1_2_28, kb1_3_28, kb1_4_28, kb1_5_28, kb1_6_28, kb1_7_28⟩ := keep8 hp28 (by show w.heap.size < _; omega) kb1_0_27' kb1_1_27' kb1_2_27' kb1_3_27' kb1_4_27' kb1_5_27' kb1_6_27' kb1_7_27'
  clear kb1_0_27' kb1_1_27' kb1_2_27' kb1_3_27' kb1_4_27' kb1_5_27' kb1_6_27' kb1_7_27'
  obtain ⟨kb2_0_28, kb2_1_28, kb2_2_28, kb2_3_28, kb2_4_28, kb2_5_28, kb2_6_28, kb2_7_28⟩ := keep8 hp28 (by show w5.heap.size < _; omega) kb2_0_27' kb2_1_27' kb2_2_27' kb2_3_27' kb2_4_27' kb2_5_27' kb2_6_27' kb2_7_27'
  clear kb2_0_27' kb2_1_27' kb2_2_27' kb2_3_27' kb2_4_27' kb2_5_27' kb2_6_27' kb2_7_27'
  obtain ⟨kb3_0_28, kb3_1_28, kb3_2_28, kb3_3_28, kb3_4_28, kb3_5_28, kb3_6_28, kb3_7_28⟩ := keep8 hp28 (by show w6.heap.size < _; omega) kb3_0_27' kb3_1_27' kb3_2_27' kb3_3_27' kb3_4_27' kb3_5_27' kb3_6_27' kb3_7_27'
  clear kb3_0_27' kb3_1_27' kb3_2_27' kb3_3_27' kb3_4_27' kb3_5_27' kb3_6_27' kb3_7_27'
  obtain ⟨kb4_0_28, kb4_1_28, kb4_2_28, kb4_3_28, kb4_4_28, kb4_5_28, kb4_6_28, kb4_7_28⟩ := keep8 hp28 (by show w8.heap.size < _; omega) kb4_0_27' kb4_1_27' kb4_2_27' kb4_3_27' kb4_4_27' kb4_5_27' kb4_6_27' kb4_7_27'
  clear kb4_0_27' kb4_1_27' kb4_2_27' kb4_3_27' kb4_4_27' kb4_5_27' kb4_6_27' kb4_7_27'
  obtain ⟨kb5_0_28, kb5_1_28, kb5_2_28, kb5_3_28, kb5_4_28, kb5_5_28, kb5_6_28, kb5_7_28⟩ := keep8 hp28 (by show w25.heap.size < _; omega) kb5_0_27' kb5_1_27' kb5_2_27' kb5_3_27' kb5_4_27' kb5_5_27' kb5_6_27' kb5_7_27'
  have hB28 := hB27'.trans (hp28.mono hB27'.size)
  have hz28 : w27.heap.size ≤ W28.heap.size := hp28.size
  have hl_b1_28 : w.heap.size < W28.heap.size := by omega
  have hl_b2_28 : w5.heap.size < W28.heap.size := by omega
  have hl_b3_28 : w6.heap.size < W28.heap.size := by omega
  have hl_b4_28 : w8.heap.size < W28.heap.size := by omega
  have hl_b5_28 : w25.heap.size < W28.heap.size := by omega
  have HW28 := Lib.hid hW28; clear hW28
  clear kb5_0_27' kb5_1_27' kb5_2_27' kb5_3_27' kb5_4_27' kb5_5_27' kb5_6_27' kb5_7_27'
  refine (heldVillage_2 Ar0_8 cr0_8 Rr0_8 dr0_8 _ _ ((runActs v0 l1).1) (1) _ (by omega) _ og0_8_0_28 og0_8_1_28 (by first | omega | (simp; omega))).mono ?_
  rintro e w28 ⟨rfl, hb28⟩
  try simp only [Vg.val]
  have ow0_5_0_28' := Row2.below ow0_5_0_28 hb28 (by omega)
  have ow0_5_1_28' := Row2.below ow0_5_1_28 hb28 (by omega)
  have ow1_5_0_28' := Row2.below ow1_5_0_28 hb28 (by omega)
  have ot6_0_28' := Row2.below ot6_0_28 hb28 (by omega)
  have ot6_1_28' := Row2.below ot6_1_28 hb28 (by omega)
  have ot7_0_28' := Row2.below ot7_0_28 hb28 (by omega)
  have og0_8_0_28' := Row2.below og0_8_0_28 hb28 (by omega)
  have og0_8_1_28' := Row2.below og0_8_1_28 hb28 (by omega)
  have og1_8_0_28' := Row2.below og1_8_0_28 hb28 (by omega)
  have oh0_25_0_28' := Row2.below oh0_25_0_28 hb28 (by omega)
  have oh0_25_1_28' := Row2.below oh0_25_1_28 hb28 (by omega)
  have oh1_25_0_28' := Row2.below oh1_25_0_28 hb28 (by omega)
  clear ow0_5_0_28 ow0_5_1_28 ow1_5_0_28 ot6_0_28 ot6_1_28 ot7_0_28 og0_8_0_28 og0_8_1_28 og1_8_0_28 oh0_25_0_28 oh0_25_1_28 oh1_25_0_28
  obtain ⟨kb1_0_28', kb1_1_28', kb1_2_28', kb1_3_28', kb1_4_28', kb1_5_28', kb1_6_28', kb1_7_28'⟩ := keep8 hb28 (by show w.heap.size < _; omega) kb1_0_28 kb1_1_28 kb1_2_28 kb1_3_28 kb1_4_28 kb1_5_28 kb1_6_28 kb1_7_28
  clear kb1_0_28 kb1_1_28 kb1_2_28 kb1_3_28 kb1_4_28 kb1_5_28 kb1_6_28 kb1_7_28
  obtain ⟨kb2_0_28', kb2_1_28', kb2_2_28', kb2_3_28', kb2_4_28', kb2_5_28', kb2_6_28', kb2_7_28'⟩ := keep8 hb28 (by show w5.heap.size < _; omega) kb2_0_28 kb2_1_28 kb2_2_28 kb2_3_28 kb2_4_28 kb2_5_28 kb2_6_28 kb2_7_28
  clear kb2_0_28 kb2_1_28 kb2_2_28 kb2_3_28 kb2_4_28 kb2_5_28 kb2_6_28 kb2_7_28
  obtain ⟨kb3_0_28', kb3_1_28', kb3_2_28', kb3_3_28', kb3_4_28', kb3_5_28', kb3_6_28', kb3_7_28'⟩ := keep8 hb28 (by show w6.heap.size < _; omega) kb3_0_28 kb3_1_28 kb3_2_28 kb3_3_28 kb3_4_28 kb3_5_28 kb3_6_28 kb3_7_28
  clear kb3_0_28 kb3_1_28 kb3_2_28 kb3_3_28 kb3_4_28 kb3_5_28 kb3_6_28 kb3_7_28
  obtain ⟨kb4_0_28', kb4_1_28', kb4_2_28', kb4_3_28', kb4_4_28', kb4_5_28', kb4_6_28', kb4_7_28'⟩ := keep8 hb28 (by show w8.heap.size < _; omega) kb4_0_28 kb4_1_28 kb4_2_28 kb4_3_28 kb4_4_28 kb4_5_28 kb4_6_28 kb4_7_28
  clear kb4_0_28 kb4_1_28 kb4_2_28 kb4_3_28 kb4_4_28 kb4_5_28 kb4_6_28 kb4_7_28
  obtain ⟨kb5_0_28', kb5_1_28', kb5_2_28', kb5_3_28', kb5_4_28', kb5_5_28', kb5_6_28', kb5_7_28'⟩ := keep8 hb28 (by show w25.heap.size < _; omega) kb5_0_28 kb5_1_28 kb5_2_28 kb5_3_28 kb5_4_28 kb5_5_28 kb5_6_28 kb5_7_28
  have hB28' := hB28.trans (hb28.mono hB28.size)
  have hz28' : W28.heap.size ≤ w28.heap.size := hb28.size
  have hl_b1_28' : w.heap.size < w28.heap.size := by omega
  have hl_b2_28' : w5.heap.size < w28.heap.size := by omega
  have hl_b3_28' : w6.heap.size < w28.heap.size := by omega
  have hl_b4_28' : w8.heap.size < w28.heap.size := by omega
  have hl_b5_28' : w25.heap.size < w28.heap.size := by omega
  clear kb5_0_28 kb5_1_28 kb5_2_28 kb5_3_28 kb5_4_28 kb5_5_28 kb5_6_28 kb5_7_28
  go_wp2_with fail
  first | refine name_world ?_ | refine name_wp ?_
  intro W29 hW29
  have hp29 : Below w28.heap.size w28 W29 := by rw [hW29]; repeat' (first | (with_reducible exact Below.refl _ _) | (with_reducible refine Below.alloc ?_ ?_ _) | (with_reducible refine Below.setCell ?_ ?_ _) | (with_reducible refine Below.drew ?_) | (simp; done) | (simp; omega))
  have ow0_5_0_29 := Row2.below ow0_5_0_28' hp29 (by omega)
  have ow0_5_1_29 := Row2.below ow0_5_1_28' hp29 (by omega)
  have ow1_5_0_29 := Row2.below ow1_5_0_28' hp29 (by omega)
  have ot6_0_29 := Row2.below ot6_0_28' hp29 (by omega)
  have ot6_1_29 := Row2.below ot6_1_28' hp29 (by omega)
  have ot7_0_29 := Row2.below ot7_0_28' hp29 (by omega)
  have og0_8_0_29 := Row2.below og0_8_0_28' hp29 (by omega)
  have og0_8_1_29 := Row2.below og0_8_1_28' hp29 (by omega)
  have og1_8_0_29 := Row2.below og1_8_0_28' hp29 (by omega)
  have oh0_25_0_29 := Row2.below oh0_25_0_28' hp29 (by omega)
  have oh0_25_1_29 := Row2.below oh0_25_1_28' hp29 (by omega)
  have oh1_25_0_29 := Row2.below oh1_25_0_28' hp29 (by omega)
  clear ow0_5_0_28' ow0_5_1_28' ow1_5_0_28' ot6_0_28' ot6_1_28' ot7_0_28' og0_8_0_28' og0_8_1_28' og1_8_0_28' oh0_25_0_28' oh0_25_1_28' oh1_25_0_28'
  obtain ⟨kb1_0_29, kb1_1_29, kb1_2_29, kb1_3_29, kb1_4_29, kb1_5_29, kb1_6_29, kb1_7_29⟩ := keep8 hp29 (by show w.heap.size < _; omega) kb1_0_28' kb1_1_28' kb1_2_28' kb1_3_28' kb1_4_28' kb1_5_28' kb1_6_28' kb1_7_28'
  clear kb1_0_28' kb1_1_28' kb1_2_28' kb1_3_28' kb1_4_28' kb1_5_28' kb1_6_28' kb1_7_28'
  obtain ⟨kb2_0_29, kb2_1_29, kb2_2_29, kb2_3_29, kb2_4_29, kb2_5_29, kb2_6_29, kb2_7_29⟩ := keep8 hp29 (by show w5.heap.size < _; omega) kb2_0_28' kb2_1_28' kb2_2_28' kb2_3_28' kb2_4_28' kb2_5_28' kb2_6_28' kb2_7_28'
  clear kb2_0_28' kb2_1_28' kb2_2_28' kb2_3_28' kb2_4_28' kb2_5_28' kb2_6_28' kb2_7_28'
  obtain ⟨kb3_0_29, kb3_1_29, kb3_2_29, kb3_3_29, kb3_4_29, kb3_5_29, kb3_6_29, kb3_7_29⟩ := keep8 hp29 (by show w6.heap.size < _; omega) kb3_0_28' kb3_1_28' kb3_2_28' kb3_3_28' kb3_4_28' kb3_5_28' kb3_6_28' kb3_7_28'
  clear kb3_0_28' kb3_1_28' kb3_2_28' kb3_3_28' kb3_4_28' kb3_5_28' kb3_6_28' kb3_7_28'
  obtain ⟨kb4_0_29, kb4_1_29, kb4_2_29, kb4_3_29, kb4_4_29, kb4_5_29, kb4_6_29, kb4_7_29⟩ := keep8 hp29 (by show w8.heap.size < _; omega) kb4_0_28' kb4_1_28' kb4_2_28' kb4_3_28' kb4_4_28' kb4_5_28' kb4_6_28' kb4_7_28'
  clear kb4_0_28' kb4_1_28' kb4_2_28' kb4_3_28' kb4_4_28' kb4_5_28' kb4_6_28' kb4_7_28'
  obtain ⟨kb5_0_29, kb5_1_29, kb5_2_29, kb5_3_29, kb5_4_29, kb5_5_29, kb5_6_29, kb5_7_29⟩ := keep8 hp29 (by show w25.heap.size < _; omega) kb5_0_28' kb5_1_28' kb5_2_28' kb5_3_28' kb5_4_28' kb5_5_28' kb5_6_28' kb5_7_28'
  have hB29 := hB28'.trans (hp29.mono hB28'.size)
  have hz29 : w28.heap.size ≤ W29.heap.size := hp29.size
  have hl_b1_29 : w.heap.size < W29.heap.size := by omega
  have hl_b2_29 : w5.heap.size < W29.heap.size := by omega
  have hl_b3_29 : w6.heap.size < W29.heap.size := by omega
  have hl_b4_29 : w8.heap.size < W29.heap.size := by omega
  have hl_b5_29 : w25.heap.size < W29.heap.size := by omega
  have HW29 := Lib.hid hW29; clear hW29
  clear kb5_0_28' kb5_1_28' kb5_2_28' kb5_3_28' kb5_4_28' kb5_5_28' kb5_6_28' kb5_7_28'
  refine (heldIntS_2 Ar1_8 cr1_8 _ _ ((runActs v0 l1).2.length) (1 + (3 * ((runActs v0 l1).1.book.evs.length) + 3 * ((runActs v0 l1).1.rights.length))) _ (by omega) _ og1_8_0_29 (by first | omega | (simp; omega))).mono ?_
  rintro e w29 ⟨rfl, hb29⟩
  try simp only [Vg.val]
  have ow0_5_0_29' := Row2.below ow0_5_0_29 hb29 (by omega)
  have ow0_5_1_29' := Row2.below ow0_5_1_29 hb29 (by omega)
  have ow1_5_0_29' := Row2.below ow1_5_0_29 hb29 (by omega)
  have ot6_0_29' := Row2.below ot6_0_29 hb29 (by omega)
  have ot6_1_29' := Row2.below ot6_1_29 hb29 (by omega)
  have ot7_0_29' := Row2.below ot7_0_29 hb29 (by omega)
  have og0_8_0_29' := Row2.below og0_8_0_29 hb29 (by omega)
  have og0_8_1_29' := Row2.below og0_8_1_29 hb29 (by omega)
  have og1_8_0_29' := Row2.below og1_8_0_29 hb29 (by omega)
  have oh0_25_0_29' := Row2.below oh0_25_0_29 hb29 (by omega)
  have oh0_25_1_29' := Row2.below oh0_25_1_29 hb29 (by omega)
  have oh1_25_0_29' := Row2.below oh1_25_0_29 hb29 (by omega)
  clear ow0_5_0_29 ow0_5_1_29 ow1_5_0_29 ot6_0_29 ot6_1_29 ot7_0_29 og0_8_0_29 og0_8_1_29 og1_8_0_29 oh0_25_0_29 oh0_25_1_29 oh1_25_0_29
  obtain ⟨kb1_0_29', kb1_1_29', kb1_2_29', kb1_3_29', kb1_4_29', kb1_5_29', kb1_6_29', kb1_7_29'⟩ := keep8 hb29 (by show w.heap.size < _; omega) kb1_0_29 kb1_1_29 kb1_2_29 kb1_3_29 kb1_4_29 kb1_5_29 kb1_6_29 kb1_7_29
  clear kb1_0_29 kb1_1_29 kb1_2_29 kb1_3_29 kb1_4_29 kb1_5_29 kb1_6_29 kb1_7_29
  obtain ⟨kb2_0_29', kb2_1_29', kb2_2_29', kb2_3_29', kb2_4_29', kb2_5_29', kb2_6_29', kb2_7_29'⟩ := keep8 hb29 (by show w5.heap.size < _; omega) kb2_0_29 kb2_1_29 kb2_2_29 kb2_3_29 kb2_4_29 kb2_5_29 kb2_6_29 kb2_7_29
  clear kb2_0_29 kb2_1_29 kb2_2_29 kb2_3_29 kb2_4_29 kb2_5_29 kb2_6_29 kb2_7_29
  obtain ⟨kb3_0_29', kb3_1_29', kb3_2_29', kb3_3_29', kb3_4_29', kb3_5_29', kb3_6_29', kb3_7_29'⟩ := keep8 hb29 (by show w6.heap.size < _; omega) kb3_0_29 kb3_1_29 kb3_2_29 kb3_3_29 kb3_4_29 kb3_5_29 kb3_6_29 kb3_7_29
  clear kb3_0_29 kb3_1_29 kb3_2_29 kb3_3_29 kb3_4_29 kb3_5_29 kb3_6_29 kb3_7_29
  obtain ⟨kb4_0_29', kb4_1_29', kb4_2_29', kb4_3_29', kb4_4_29', kb4_5_29', kb4_6_29', kb4_7_29'⟩ := keep8 hb29 (by show w8.heap.size < _; omega) kb4_0_29 kb4_1_29 kb4_2_29 kb4_3_29 kb4_4_29 kb4_5_29 kb4_6_29 kb4_7_29
  clear kb4_0_29 kb4_1_29 kb4_2_29 kb4_3_29 kb4_4_29 kb4_5_29 kb4_6_29 kb4_7_29
  obtain ⟨kb5_0_29', kb5_1_29', kb5_2_29', kb5_3_29', kb5_4_29', kb5_5_29', kb5_6_29', kb5_7_29'⟩ := keep8 hb29 (by show w25.heap.size < _; omega) kb5_0_29 kb5_1_29 kb5_2_29 kb5_3_29 kb5_4_29 kb5_5_29 kb5_6_29 kb5_7_29
  have hB29' := hB29.trans (hb29.mono hB29.size)
  have hz29' : W29.heap.size ≤ w29.heap.size := hb29.size
  have hl_b1_29' : w.heap.size < w29.heap.size := by omega
  have hl_b2_29' : w5.heap.size < w29.heap.size := by omega
  have hl_b3_29' : w6.heap.size < w29.heap.size := by omega
  have hl_b4_29' : w8.heap.size < w29.heap.size := by omega
  have hl_b5_29' : w25.heap.size < w29.heap.size := by omega
  clear kb5_0_29 kb5_1_29 kb5_2_29 kb5_3_29 kb5_4_29 kb5_5_29 kb5_6_29 kb5_7_29
  go_wp2_with fail
  go_ret
  exact ⟨rfl, by first | exact hB29' | (refine hB29'.trans (Below.mono (B := w29.heap.size) ?_ hB29'.size); repeat' (first | (with_reducible exact Below.refl _ _) | (with_reducible refine Below.alloc ?_ ?_ _) | (with_reducible refine Below.setCell ?_ ?_ _) | (with_reducible refine Below.drew ?_) | (simp; done) | (simp; omega)))⟩
set_option maxRecDepth 100000 in
theorem lifted_FnExactRunActs (os : Os) (started : os.Started) (H : Type) (enc : TypeId × Value → H) :
    ReturnsInHanded {} Tryz.checked os 4 .any (Rows.fnExactRunActsSpec.pre6 enc Tryz.prog Tryz.f4 Rows.fnExactRunActsRow.domain false) (Rows.fnExactRunActsSpec.post enc Tryz.prog Tryz.f4 false true false false) := by
  refine returnsInHanded_of_change (C := Tryz.checked) own_knob started (by kernel_rfl) Tryz.func4
    (ChangeSpec.witness6 (enc := enc) (C := Tryz.checked) false ⟨#[], #[.agg #[.int .i64 0, .int .i64 0, .slice none 0 0, .int .i64 0, .int .i64 0, .int .i64 0, .int .i64 0, .slice none 0 0], .slice none 0 0], []⟩ 8 (by kernel_rfl) (by kernel_rfl) (by kernel_rfl) (by kernel_rfl)) ?_
  intro W base args ds gs before hval0 hW hcnd _
  have hval : ∀ (j : Nat) t v, Tryz.f4.params[j]? = some t → args[j]? = some v → Value.okWide Tryz.prog W .any base t v := hval0
  have hW' := hW
  obtain ⟨p, q, hA0, hV, rfl, hfz, hnd⟩ := hW
  have hA : DataW.TrodAll enc Tryz.prog W 0 (fun _ => true) true Tryz.f4.params.toList args.toList ds p := hA0
  rw [Tryz.params4] at hA hval
  obtain ⟨v0, vs0, d0, ds0, p0, q0, hargs, rfl, rfl, h0, r0⟩ := trodAll_cons hA
  obtain ⟨v1, vs1, d1, ds1, p1, q1, rfl, rfl, rfl, h1, r1⟩ := trodAll_cons r0
  obtain ⟨rfl, rfl, rfl⟩ := trodAll_nil r1
  obtain rfl : args = #[v0, v1] := by cases args; simp_all
  obtain ⟨rfl, rfl⟩ := trodVars_none hV
  obtain ⟨A0, c0, B0, e0, x0, rfl, hr0, hq0⟩ := arg_village (hval 0 27 v0 rfl rfl) h0
  have lt0 : ∀ x ∈ p0, x.block < W.heap.size := by obtain ⟨m, hm⟩ := h0; exact DataW.trod_lt m _ _ _ hm
  obtain ⟨A1, c1, l1, rfl, hr1⟩ := arg_acts (hval 1 45 v1 rfl rfl) h1
  have lt1 : ∀ x ∈ p1, x.block < W.heap.size := by obtain ⟨m, hm⟩ := h1; exact DataW.trod_lt m _ _ _ hm
  clear hA0 hval0
  refine (walk_FnExactRunActs W A0 c0 B0 e0 x0 hr0 hq0 A1 c1 l1 hr1).mono fun e W' ⟨he, bel⟩ => ?_
  subst he
  exact ⟨_, rfl, _, _, _, [], _, [], hW', trodAll_mk1 (shut_bool Tryz.underlying4 _), (trodAll_cons_mk (Below.trod laid_out (by kernel_rfl) (of_decide_eq_true (by kernel_rfl)) h0 bel lt0) (trodAll_cons_mk (Below.trod laid_out (by kernel_rfl) (of_decide_eq_true (by kernel_rfl)) h1 bel lt1) trodAll_mk0)), rfl, bel.frame _, fun h => by cases h⟩

theorem fnExactRunActs_holds : Rows.FnExactRunActsSaid :=
  OpenClaim.holds_of_wide 4 Tryz.f4 rfl rfl rfl rfl rfl rfl rfl ⟨rfl, rfl, rfl, rfl, rfl⟩ rfl rfl rfl rfl rfl (by kernel_rfl) Tryz.func4 (by kernel_rfl)
    (of_decide_eq_true (by kernel_rfl)) (by unfold Func.isWrapper; rw [if_neg (by decide +kernel)]; exact ⟨rfl, rfl⟩)
    (fun os started H enc _ => lifted_FnExactRunActs os started H enc)
end Go.Proofs.YtljidaniidfdoaaGreat
