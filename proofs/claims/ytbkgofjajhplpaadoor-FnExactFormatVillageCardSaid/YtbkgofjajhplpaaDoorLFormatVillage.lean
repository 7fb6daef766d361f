/- The law FnExactFormatVillage answers true for every village. No conditions. -/
import Derived.Test.YtbkgofjajhplpaaDoorFmtV
import Derived.Test.YtbkgofjajhplpaaDoorToStr
import Derived.Test.YtbkgofjajhplpaaDoorOpenVillage
import Derived.Test.YtbkgofjajhplpaaDoorVill2
import Derived.Test.YtbkgofjajhplpaaDoorTie
import Derived.Test.YtbkgofjajhplpaaDoorCards
import Derived.SevenTiedAt
import Derived.LaidMore
import Derived.Deep.RegionHeld3
import Derived.OpenShut
import Derived.Stop.Joined
import Derived.Stop.LaidErr
import Derived.ProofKit
import Derived.LaidLaws
import Derived.Lib.LaidTab
namespace Go.Proofs.YtbkgofjajhplpaaDoor
set_option linter.unusedSimpArgs false
set_option linter.unusedVariables false
open Go.ChangeShapes Go.WideShapes Go.ChangeAt Go.RowKit
set_option maxRecDepth 20000
set_option maxHeartbeats 12800000 in
theorem walk_FnExactFormatVillage (w : World) (ht : Tab w) (A0 : Option Addr) (c0 : Nat) (R0 : Option Addr) (d0 : Nat) (v0 : Vg) (h0_0 : RdT w w.heap.size A0 c0 v0.book.evs) (h0_1 : RdT w w.heap.size R0 d0 v0.rights) :
    Calls Tryd.prog 4 #[(Vg.val v0 A0 c0 R0 d0)] w fun e w' => e = .returned (.bool true) ∧ Below w.heap.size w w' := by
  by_cases hbig0 : (1048576 : Int) < (v0.book.evs.length + v0.rights.length)
  · unfold Vg.val; go_enter Tryd.func4, Tryd.ntmps4
    go_wp2_with fail
    refine (szVillage_big A0 c0 R0 d0 v0 _ _ (by omega) (by omega) (by omega) (by have := h0_0.le; omega) (by have := h0_1.le; omega)).mono ?_
    rintro e w0' ⟨rfl, hb0'⟩
    go_wp2_with fail
    go_ret
    exact ⟨rfl, by repeat' (first | (with_reducible exact Below.refl _ _) | (with_reducible assumption) | (with_reducible refine Below.alloc ?_ ?_ _) | (with_reducible refine Below.setCell ?_ ?_ _) | (with_reducible refine Below.drew ?_) | (with_reducible refine below_drewN ?_ _) | (refine Below.trans ?_ (Below.mono (by with_reducible assumption) ?_)) | omega | (simp; done) | (simp; omega))⟩
  have hs0 : (v0.book.evs.length + v0.rights.length) ≤ 1048576 := by omega
  have hsl := fmtV_len v0
  have hB0 : Below w.heap.size w w := Below.refl _ _
  unfold Vg.val; go_enter Tryd.func4, Tryd.ntmps4
  go_wp2_with fail
  first | refine name_world ?_ | refine name_wp ?_
  intro W1 hW1
  have hp1 : Below w.heap.size w W1 := by rw [hW1]; repeat' (first | (with_reducible exact Below.refl _ _) | (with_reducible refine Below.alloc ?_ ?_ _) | (with_reducible refine Below.setCell ?_ ?_ _) | (with_reducible refine Below.drew ?_) | (simp; done) | (simp; omega))
  have kb1_0_1 : W1.cell? ⟨w.heap.size, 0, none⟩ = some (.int .i64 v0.book.room) := by rw [hW1]; simp [go_sem]
  have kb1_1_1 : W1.cell? ⟨w.heap.size, 1, none⟩ = some (.int .i64 v0.book.start) := by rw [hW1]; simp [go_sem]
  have kb1_2_1 : W1.cell? ⟨w.heap.size, 2, none⟩ = some (.slice A0 v0.book.evs.length c0) := by rw [hW1]; simp [go_sem]
  have kb1_3_1 : W1.cell? ⟨w.heap.size, 3, none⟩ = some (.int .i64 v0.book.level) := by rw [hW1]; simp [go_sem]
  have kb1_4_1 : W1.cell? ⟨w.heap.size, 4, none⟩ = some (.int .i64 v0.book.rained) := by rw [hW1]; simp [go_sem]
  have kb1_5_1 : W1.cell? ⟨w.heap.size, 5, none⟩ = some (.int .i64 v0.book.drunk) := by rw [hW1]; simp [go_sem]
  have kb1_6_1 : W1.cell? ⟨w.heap.size, 6, none⟩ = some (.int .i64 v0.book.lost) := by rw [hW1]; simp [go_sem]
  have kb1_7_1 : W1.cell? ⟨w.heap.size, 7, none⟩ = some (.slice R0 v0.rights.length d0) := by rw [hW1]; simp [go_sem]
  have hl_b1 : w.heap.size < W1.heap.size := by rw [hW1]; first | (simp; done) | (simp; omega)
  have hB1 := hB0.trans (hp1.mono hB0.size)
  have hz1 : w.heap.size ≤ W1.heap.size := hp1.size
  have HW1 := Lib.hid hW1; clear hW1
  refine (szVillage_ok A0 c0 R0 d0 v0 _ _ (by omega) (by omega)).mono ?_
  rintro e w1 ⟨rfl, hb1⟩
  try simp only [Vg.val]
  have kb1_0_1' := (hb1.cell (p := ⟨w.heap.size, 0, none⟩) (by show w.heap.size < _; omega)).trans kb1_0_1
  have kb1_1_1' := (hb1.cell (p := ⟨w.heap.size, 1, none⟩) (by show w.heap.size < _; omega)).trans kb1_1_1
  have kb1_2_1' := (hb1.cell (p := ⟨w.heap.size, 2, none⟩) (by show w.heap.size < _; omega)).trans kb1_2_1
  have kb1_3_1' := (hb1.cell (p := ⟨w.heap.size, 3, none⟩) (by show w.heap.size < _; omega)).trans kb1_3_1
  have kb1_4_1' := (hb1.cell (p := ⟨w.heap.size, 4, none⟩) (by show w.heap.size < _; omega)).trans kb1_4_1
  have kb1_5_1' := (hb1.cell (p := ⟨w.heap.size, 5, none⟩) (by show w.heap.size < _; omega)).trans kb1_5_1
  have kb1_6_1' := (hb1.cell (p := ⟨w.heap.size, 6, none⟩) (by show w.heap.size < _; omega)).trans kb1_6_1
  have kb1_7_1' := (hb1.cell (p := ⟨w.heap.size, 7, none⟩) (by show w.heap.size < _; omega)).trans kb1_7_1
  have hB1' := hB1.trans (hb1.mono hB1.size)
  have hz1' : W1.heap.size ≤ w1.heap.size := hb1.size
  have hl_b1_1' : w.heap.size < w1.heap.size := by omega
  clear kb1_0_1 kb1_1_1 kb1_2_1 kb1_3_1 kb1_4_1 kb1_5_1 kb1_6_1 kb1_7_1
  go_wp2_with fail
  first | refine name_world ?_ | refine name_wp ?_
  intro W2 hW2
  have hp2 : Below w1.heap.size w1 W2 := by rw [hW2]; repeat' (first | (with_reducible exact Below.refl _ _) | (with_reducible refine Below.alloc ?_ ?_ _) | (with_reducible refine Below.setCell ?_ ?_ _) | (with_reducible refine Below.drew ?_) | (simp; done) | (simp; omega))
  have kb1_0_2 := (hp2.cell (p := ⟨w.heap.size, 0, none⟩) (by show w.heap.size < _; omega)).trans kb1_0_1'
  have kb1_1_2 := (hp2.cell (p := ⟨w.heap.size, 1, none⟩) (by show w.heap.size < _; omega)).trans kb1_1_1'
  have kb1_2_2 := (hp2.cell (p := ⟨w.heap.size, 2, none⟩) (by show w.heap.size < _; omega)).trans kb1_2_1'
  have kb1_3_2 := (hp2.cell (p := ⟨w.heap.size, 3, none⟩) (by show w.heap.size < _; omega)).trans kb1_3_1'
  have kb1_4_2 := (hp2.cell (p := ⟨w.heap.size, 4, none⟩) (by show w.heap.size < _; omega)).trans kb1_4_1'
  have kb1_5_2 := (hp2.cell (p := ⟨w.heap.size, 5, none⟩) (by show w.heap.size < _; omega)).trans kb1_5_1'
  have kb1_6_2 := (hp2.cell (p := ⟨w.heap.size, 6, none⟩) (by show w.heap.size < _; omega)).trans kb1_6_1'
  have kb1_7_2 := (hp2.cell (p := ⟨w.heap.size, 7, none⟩) (by show w.heap.size < _; omega)).trans kb1_7_1'
  have hB2 := hB1'.trans (hp2.mono hB1'.size)
  have hz2 : w1.heap.size ≤ W2.heap.size := hp2.size
  have hl_b1_2 : w.heap.size < W2.heap.size := by omega
  have HW2 := Lib.hid hW2; clear hW2
  clear kb1_0_1' kb1_1_1' kb1_2_1' kb1_3_1' kb1_4_1' kb1_5_1' kb1_6_1' kb1_7_1'
  refine (toVillage_any A0 c0 R0 d0 v0 _ (Rd.later h0_0 hB2) (Rd.later h0_1 hB2) hs0).mono ?_
  rintro e w2 ⟨A'2, c'2, R'2, d'2, rfl, ho0_2, ho1_2, hb2⟩
  try simp only [Vg.val]
  have kb1_0_2' := (hb2.cell (p := ⟨w.heap.size, 0, none⟩) (by show w.heap.size < _; omega)).trans kb1_0_2
  have kb1_1_2' := (hb2.cell (p := ⟨w.heap.size, 1, none⟩) (by show w.heap.size < _; omega)).trans kb1_1_2
  have kb1_2_2' := (hb2.cell (p := ⟨w.heap.size, 2, none⟩) (by show w.heap.size < _; omega)).trans kb1_2_2
  have kb1_3_2' := (hb2.cell (p := ⟨w.heap.size, 3, none⟩) (by show w.heap.size < _; omega)).trans kb1_3_2
  have kb1_4_2' := (hb2.cell (p := ⟨w.heap.size, 4, none⟩) (by show w.heap.size < _; omega)).trans kb1_4_2
  have kb1_5_2' := (hb2.cell (p := ⟨w.heap.size, 5, none⟩) (by show w.heap.size < _; omega)).trans kb1_5_2
  have kb1_6_2' := (hb2.cell (p := ⟨w.heap.size, 6, none⟩) (by show w.heap.size < _; omega)).trans kb1_6_2
  have kb1_7_2' := (hb2.cell (p := ⟨w.heap.size, 7, none⟩) (by show w.heap.size < _; omega)).trans kb1_7_2
  have hB2' := hB2.trans (hb2.mono hB2.size)
  have hz2' : W2.heap.size ≤ w2.heap.size := hb2.size
  have hl_b1_2' : w.heap.size < w2.heap.size := by omega
  have ot2_0_n := Row2.born ho0_2
  have ot2_1_n := Row2.born ho1_2
  clear kb1_0_2 kb1_1_2 kb1_2_2 kb1_3_2 kb1_4_2 kb1_5_2 kb1_6_2 kb1_7_2 ho0_2 ho1_2
  go_wp2_with fail
  first | refine name_world ?_ | refine name_wp ?_
  intro W3 hW3
  have hp3 : Below w2.heap.size w2 W3 := by rw [hW3]; repeat' (first | (with_reducible exact Below.refl _ _) | (with_reducible refine Below.alloc ?_ ?_ _) | (with_reducible refine Below.setCell ?_ ?_ _) | (with_reducible refine Below.drew ?_) | (simp; done) | (simp; omega))
  have ot2_0_3 := Row2.below ot2_0_n hp3 (by omega)
  have ot2_1_3 := Row2.below ot2_1_n hp3 (by omega)
  have kb1_0_3 := (hp3.cell (p := ⟨w.heap.size, 0, none⟩) (by show w.heap.size < _; omega)).trans kb1_0_2'
  have kb1_1_3 := (hp3.cell (p := ⟨w.heap.size, 1, none⟩) (by show w.heap.size < _; omega)).trans kb1_1_2'
  have kb1_2_3 := (hp3.cell (p := ⟨w.heap.size, 2, none⟩) (by show w.heap.size < _; omega)).trans kb1_2_2'
  have kb1_3_3 := (hp3.cell (p := ⟨w.heap.size, 3, none⟩) (by show w.heap.size < _; omega)).trans kb1_3_2'
  have kb1_4_3 := (hp3.cell (p := ⟨w.heap.size, 4, none⟩) (by show w.heap.size < _; omega)).trans kb1_4_2'
  have kb1_5_3 := (hp3.cell (p := ⟨w.heap.size, 5, none⟩) (by show w.heap.size < _; omega)).trans kb1_5_2'
  have kb1_6_3 := (hp3.cell (p := ⟨w.heap.size, 6, none⟩) (by show w.heap.size < _; omega)).trans kb1_6_2'
  have kb1_7_3 := (hp3.cell (p := ⟨w.heap.size, 7, none⟩) (by show w.heap.size < _; omega)).trans kb1_7_2'
  have hB3 := hB2'.trans (hp3.mono hB2'.size)
  have hz3 : w2.heap.size ≤ W3.heap.size := hp3.size
  have hl_b1_3 : w.heap.size < W3.heap.size := by omega
  have HW3 := Lib.hid hW3; clear hW3
  clear ot2_0_n ot2_1_n kb1_0_2' kb1_1_2' kb1_2_2' kb1_3_2' kb1_4_2' kb1_5_2' kb1_6_2' kb1_7_2'
  refine (FormatVillageS_any A'2 c'2 R'2 d'2 v0 _ ot2_0_3.rd ot2_1_3.rd (by omega) (ht.below hB3)).mono ?_
  rintro e w3 ⟨Ar0_3, cr0_3, rfl, ho0_3, hb3⟩
  try simp only [Vg.val]
  have ot2_0_3' := Row2.below ot2_0_3 hb3 (by omega)
  have ot2_1_3' := Row2.below ot2_1_3 hb3 (by omega)
  have kb1_0_3' := (hb3.cell (p := ⟨w.heap.size, 0, none⟩) (by show w.heap.size < _; omega)).trans kb1_0_3
  have kb1_1_3' := (hb3.cell (p := ⟨w.heap.size, 1, none⟩) (by show w.heap.size < _; omega)).trans kb1_1_3
  have kb1_2_3' := (hb3.cell (p := ⟨w.heap.size, 2, none⟩) (by show w.heap.size < _; omega)).trans kb1_2_3
  have kb1_3_3' := (hb3.cell (p := ⟨w.heap.size, 3, none⟩) (by show w.heap.size < _; omega)).trans kb1_3_3
  have kb1_4_3' := (hb3.cell (p := ⟨w.heap.size, 4, none⟩) (by show w.heap.size < _; omega)).trans kb1_4_3
  have kb1_5_3' := (hb3.cell (p := ⟨w.heap.size, 5, none⟩) (by show w.heap.size < _; omega)).trans kb1_5_3
  have kb1_6_3' := (hb3.cell (p := ⟨w.heap.size, 6, none⟩) (by show w.heap.size < _; omega)).trans kb1_6_3
  have kb1_7_3' := (hb3.cell (p := ⟨w.heap.size, 7, none⟩) (by show w.heap.size < _; omega)).trans kb1_7_3
  have hB3' := hB3.trans (hb3.mono hB3.size)
  have hz3' : W3.heap.size ≤ w3.heap.size := hb3.size
  have hl_b1_3' : w.heap.size < w3.heap.size := by omega
  have ow0_3_0_n := Row2.born ho0_3
  clear ot2_0_3 ot2_1_3 kb1_0_3 kb1_1_3 kb1_2_3 kb1_3_3 kb1_4_3 kb1_5_3 kb1_6_3 kb1_7_3 ho0_3
  go_wp2_with fail
  first | refine name_world ?_ | refine name_wp ?_
  intro W4 hW4
  have hp4 : Below w3.heap.size w3 W4 := by rw [hW4]; repeat' (first | (with_reducible exact Below.refl _ _) | (with_reducible refine Below.alloc ?_ ?_ _) | (with_reducible refine Below.setCell ?_ ?_ _) | (with_reducible refine Below.drew ?_) | (simp; done) | (simp; omega))
  have ow0_3_0_4 := Row2.below ow0_3_0_n hp4 (by omega)
  have kb1_0_4 := (hp4.cell (p := ⟨w.heap.size, 0, none⟩) (by show w.heap.size < _; omega)).trans kb1_0_3'
  have kb1_1_4 := (hp4.cell (p := ⟨w.heap.size, 1, none⟩) (by show w.heap.size < _; omega)).trans kb1_1_3'
  have kb1_2_4 := (hp4.cell (p := ⟨w.heap.size, 2, none⟩) (by show w.heap.size < _; omega)).trans kb1_2_3'
  have kb1_3_4 := (hp4.cell (p := ⟨w.heap.size, 3, none⟩) (by show w.heap.size < _; omega)).trans kb1_3_3'
  have kb1_4_4 := (hp4.cell (p := ⟨w.heap.size, 4, none⟩) (by show w.heap.size < _; omega)).trans kb1_4_3'
  have kb1_5_4 := (hp4.cell (p := ⟨w.heap.size, 5, none⟩) (by show w.heap.size < _; omega)).trans kb1_5_3'
  have kb1_6_4 := (hp4.cell (p := ⟨w.heap.size, 6, none⟩) (by show w.heap.size < _; omega)).trans kb1_6_3'
  have kb1_7_4 := (hp4.cell (p := ⟨w.heap.size, 7, none⟩) (by show w.heap.size < _; omega)).trans kb1_7_3'
  have hB4 := hB3'.trans (hp4.mono hB3'.size)
  have hz4 : w3.heap.size ≤ W4.heap.size := hp4.size
  have hl_b1_4 : w.heap.size < W4.heap.size := by omega
  have HW4 := Lib.hid hW4; clear hW4
  clear ow0_3_0_n kb1_0_3' kb1_1_3' kb1_2_3' kb1_3_3' kb1_4_3' kb1_5_3' kb1_6_3' kb1_7_3'
  refine (toVillage_any A0 c0 R0 d0 v0 _ (Rd.later h0_0 hB4) (Rd.later h0_1 hB4) hs0).mono ?_
  rintro e w4 ⟨A'4, c'4, R'4, d'4, rfl, ho0_4, ho1_4, hb4⟩
  try simp only [Vg.val]
  have ow0_3_0_4' := Row2.below ow0_3_0_4 hb4 (by omega)
  have kb1_0_4' := (hb4.cell (p := ⟨w.heap.size, 0, none⟩) (by show w.heap.size < _; omega)).trans kb1_0_4
  have kb1_1_4' := (hb4.cell (p := ⟨w.heap.size, 1, none⟩) (by show w.heap.size < _; omega)).trans kb1_1_4
  have kb1_2_4' := (hb4.cell (p := ⟨w.heap.size, 2, none⟩) (by show w.heap.size < _; omega)).trans kb1_2_4
  have kb1_3_4' := (hb4.cell (p := ⟨w.heap.size, 3, none⟩) (by show w.heap.size < _; omega)).trans kb1_3_4
  have kb1_4_4' := (hb4.cell (p := ⟨w.heap.size, 4, none⟩) (by show w.heap.size < _; omega)).trans kb1_4_4
  have kb1_5_4' := (hb4.cell (p := ⟨w.heap.size, 5, none⟩) (by show w.heap.size < _; omega)).trans kb1_5_4
  have kb1_6_4' := (hb4.cell (p := ⟨w.heap.size, 6, none⟩) (by show w.heap.size < _; omega)).trans kb1_6_4
  have kb1_7_4' := (hb4.cell (p := ⟨w.heap.size, 7, none⟩) (by show w.heap.size < _; omega)).trans kb1_7_4
  have hB4' := hB4.trans (hb4.mono hB4.size)
  have hz4' : W4.heap.size ≤ w4.heap.size := hb4.size
  have hl_b1_4' : w.heap.size < w4.heap.size := by omega
  have ot4_0_n := Row2.born ho0_4
  have ot4_1_n := Row2.born ho1_4
  clear ow0_3_0_4 kb1_0_4 kb1_1_4 kb1_2_4 kb1_3_4 kb1_4_4 kb1_5_4 kb1_6_4 kb1_7_4 ho0_4 ho1_4
  go_wp2_with fail
  first | refine name_world ?_ | refine name_wp ?_
  intro W5 hW5
  have hp5 : Below w4.heap.size w4 W5 := by rw [hW5]; repeat' (first | (with_reducible exact Below.refl _ _) | (with_reducible refine Below.alloc ?_ ?_ _) | (with_reducible refine Below.setCell ?_ ?_ _) | (with_reducible refine Below.drew ?_) | (simp; done) | (simp; omega))
  have kb2_0_5 : W5.cell? ⟨w4.heap.size, 0, none⟩ = some (.int .i64 v0.book.room) := by rw [hW5]; simp [go_sem]
  have kb2_1_5 : W5.cell? ⟨w4.heap.size, 1, none⟩ = some (.int .i64 v0.book.start) := by rw [hW5]; simp [go_sem]
  have kb2_2_5 : W5.cell? ⟨w4.heap.size, 2, none⟩ = some (.slice A'4 v0.book.evs.length c'4) := by rw [hW5]; simp [go_sem]
  have kb2_3_5 : W5.cell? ⟨w4.heap.size, 3, none⟩ = some (.int .i64 v0.book.level) := by rw [hW5]; simp [go_sem]
  have kb2_4_5 : W5.cell? ⟨w4.heap.size, 4, none⟩ = some (.int .i64 v0.book.rained) := by rw [hW5]; simp [go_sem]
  have kb2_5_5 : W5.cell? ⟨w4.heap.size, 5, none⟩ = some (.int .i64 v0.book.drunk) := by rw [hW5]; simp [go_sem]
  have kb2_6_5 : W5.cell? ⟨w4.heap.size, 6, none⟩ = some (.int .i64 v0.book.lost) := by rw [hW5]; simp [go_sem]
  have kb2_7_5 : W5.cell? ⟨w4.heap.size, 7, none⟩ = some (.slice R'4 v0.rights.length d'4) := by rw [hW5]; simp [go_sem]
  have hl_b2 : w4.heap.size < W5.heap.size := by rw [hW5]; first | (simp; done) | (simp; omega)
  have ow0_3_0_5 := Row2.below ow0_3_0_4' hp5 (by omega)
  have ot4_0_5 := Row2.below ot4_0_n hp5 (by omega)
  have ot4_1_5 := Row2.below ot4_1_n hp5 (by omega)
  have kb1_0_5 := (hp5.cell (p := ⟨w.heap.size, 0, none⟩) (by show w.heap.size < _; omega)).trans kb1_0_4'
  have kb1_1_5 := (hp5.cell (p := ⟨w.heap.size, 1, none⟩) (by show w.heap.size < _; omega)).trans kb1_1_4'
  have kb1_2_5 := (hp5.cell (p := ⟨w.heap.size, 2, none⟩) (by show w.heap.size < _; omega)).trans kb1_2_4'
  have kb1_3_5 := (hp5.cell (p := ⟨w.heap.size, 3, none⟩) (by show w.heap.size < _; omega)).trans kb1_3_4'
  have kb1_4_5 := (hp5.cell (p := ⟨w.heap.size, 4, none⟩) (by show w.heap.size < _; omega)).trans kb1_4_4'
  have kb1_5_5 := (hp5.cell (p := ⟨w.heap.size, 5, none⟩) (by show w.heap.size < _; omega)).trans kb1_5_4'
  have kb1_6_5 := (hp5.cell (p := ⟨w.heap.size, 6, none⟩) (by show w.heap.size < _; omega)).trans kb1_6_4'
  have kb1_7_5 := (hp5.cell (p := ⟨w.heap.size, 7, none⟩) (by show w.heap.size < _; omega)).trans kb1_7_4'
  have hB5 := hB4'.trans (hp5.mono hB4'.size)
  have hz5 : w4.heap.size ≤ W5.heap.size := hp5.size
  have hl_b1_5 : w.heap.size < W5.heap.size := by omega
  have HW5 := Lib.hid hW5; clear hW5
  clear ow0_3_0_4' ot4_0_n ot4_1_n kb1_0_4' kb1_1_4' kb1_2_4' kb1_3_4' kb1_4_4' kb1_5_4' kb1_6_4' kb1_7_4'
  refine (FormatVillage_any A'4 c'4 R'4 d'4 v0 _ ot4_0_5.rd ot4_1_5.rd (by omega) (ht.below hB5)).mono ?_
  rintro e w5 ⟨Ar0_5, cr0_5, rfl, ho0_5, hb5⟩
  try simp only [Vg.val]
  have ow0_3_0_5' := Row2.below ow0_3_0_5 hb5 (by omega)
  have ot4_0_5' := Row2.below ot4_0_5 hb5 (by omega)
  have ot4_1_5' := Row2.below ot4_1_5 hb5 (by omega)
  have kb1_0_5' := (hb5.cell (p := ⟨w.heap.size, 0, none⟩) (by show w.heap.size < _; omega)).trans kb1_0_5
  have kb1_1_5' := (hb5.cell (p := ⟨w.heap.size, 1, none⟩) (by show w.heap.size < _; omega)).trans kb1_1_5
  have kb1_2_5' := (hb5.cell (p := ⟨w.heap.size, 2, none⟩) (by show w.heap.size < _; omega)).trans kb1_2_5
  have kb1_3_5' := (hb5.cell (p := ⟨w.heap.size, 3, none⟩) (by show w.heap.size < _; omega)).trans kb1_3_5
  have kb1_4_5' := (hb5.cell (p := ⟨w.heap.size, 4, none⟩) (by show w.heap.size < _; omega)).trans kb1_4_5
  have kb1_5_5' := (hb5.cell (p := ⟨w.heap.size, 5, none⟩) (by show w.heap.size < _; omega)).trans kb1_5_5
  have kb1_6_5' := (hb5.cell (p := ⟨w.heap.size, 6, none⟩) (by show w.heap.size < _; omega)).trans kb1_6_5
  have kb1_7_5' := (hb5.cell (p := ⟨w.heap.size, 7, none⟩) (by show w.heap.size < _; omega)).trans kb1_7_5
  have kb2_0_5' := (hb5.cell (p := ⟨w4.heap.size, 0, none⟩) (by show w4.heap.size < _; omega)).trans kb2_0_5
  have kb2_1_5' := (hb5.cell (p := ⟨w4.heap.size, 1, none⟩) (by show w4.heap.size < _; omega)).trans kb2_1_5
  have kb2_2_5' := (hb5.cell (p := ⟨w4.heap.size, 2, none⟩) (by show w4.heap.size < _; omega)).trans kb2_2_5
  have kb2_3_5' := (hb5.cell (p := ⟨w4.heap.size, 3, none⟩) (by show w4.heap.size < _; omega)).trans kb2_3_5
  have kb2_4_5' := (hb5.cell (p := ⟨w4.heap.size, 4, none⟩) (by show w4.heap.size < _; omega)).trans kb2_4_5
  have kb2_5_5' := (hb5.cell (p := ⟨w4.heap.size, 5, none⟩) (by show w4.heap.size < _; omega)).trans kb2_5_5
  have kb2_6_5' := (hb5.cell (p := ⟨w4.heap.size, 6, none⟩) (by show w4.heap.size < _; omega)).trans kb2_6_5
  have kb2_7_5' := (hb5.cell (p := ⟨w4.heap.size, 7, none⟩) (by show w4.heap.size < _; omega)).trans kb2_7_5
  have hB5' := hB5.trans (hb5.mono hB5.size)
  have hz5' : W5.heap.size ≤ w5.heap.size := hb5.size
  have hl_b1_5' : w.heap.size < w5.heap.size := by omega
  have hl_b2_5' : w4.heap.size < w5.heap.size := by omega
  have og0_5_0_n := Row2.born ho0_5
  clear ow0_3_0_5 ot4_0_5 ot4_1_5 kb1_0_5 kb1_1_5 kb1_2_5 kb1_3_5 kb1_4_5 kb1_5_5 kb1_6_5 kb1_7_5 kb2_0_5 kb2_1_5 kb2_2_5 kb2_3_5 kb2_4_5 kb2_5_5 kb2_6_5 kb2_7_5 ho0_5
  go_wp2_with fail
  first | refine name_world ?_ | refine name_wp ?_
  intro W6 hW6
  have hp6 : Below w5.heap.size w5 W6 := by rw [hW6]; repeat' (first | (with_reducible exact Below.refl _ _) | (with_reducible refine Below.alloc ?_ ?_ _) | (with_reducible refine Below.setCell ?_ ?_ _) | (with_reducible refine Below.drew ?_) | (simp; done) | (simp; omega))
  have ow0_3_0_6 := Row2.below ow0_3_0_5' hp6 (by omega)
  have ot4_0_6 := Row2.below ot4_0_5' hp6 (by omega)
  have ot4_1_6 := Row2.below ot4_1_5' hp6 (by omega)
  have og0_5_0_6 := Row2.below og0_5_0_n hp6 (by omega)
  have kb1_0_6 := (hp6.cell (p := ⟨w.heap.size, 0, none⟩) (by show w.heap.size < _; omega)).trans kb1_0_5'
  have kb1_1_6 := (hp6.cell (p := ⟨w.heap.size, 1, none⟩) (by show w.heap.size < _; omega)).trans kb1_1_5'
  have kb1_2_6 := (hp6.cell (p := ⟨w.heap.size, 2, none⟩) (by show w.heap.size < _; omega)).trans kb1_2_5'
  have kb1_3_6 := (hp6.cell (p := ⟨w.heap.size, 3, none⟩) (by show w.heap.size < _; omega)).trans kb1_3_5'
  have kb1_4_6 := (hp6.cell (p := ⟨w.heap.size, 4, none⟩) (by show w.heap.size < _; omega)).trans kb1_4_5'
  have kb1_5_6 := (hp6.cell (p := ⟨w.heap.size, 5, none⟩) (by show w.heap.size < _; omega)).trans kb1_5_5'
  have kb1_6_6 := (hp6.cell (p := ⟨w.heap.size, 6, none⟩) (by show w.heap.size < _; omega)).trans kb1_6_5'
  have kb1_7_6 := (hp6.cell (p := ⟨w.heap.size, 7, none⟩) (by show w.heap.size < _; omega)).trans kb1_7_5'
  have kb2_0_6 := (hp6.cell (p := ⟨w4.heap.size, 0, none⟩) (by show w4.heap.size < _; omega)).trans kb2_0_5'
  have kb2_1_6 := (hp6.cell (p := ⟨w4.heap.size, 1, none⟩) (by show w4.heap.size < _; omega)).trans kb2_1_5'
  have kb2_2_6 := (hp6.cell (p := ⟨w4.heap.size, 2, none⟩) (by show w4.heap.size < _; omega)).trans kb2_2_5'
  have kb2_3_6 := (hp6.cell (p := ⟨w4.heap.size, 3, none⟩) (by show w4.heap.size < _; omega)).trans kb2_3_5'
  have kb2_4_6 := (hp6.cell (p := ⟨w4.heap.size, 4, none⟩) (by show w4.heap.size < _; omega)).trans kb2_4_5'
  have kb2_5_6 := (hp6.cell (p := ⟨w4.heap.size, 5, none⟩) (by show w4.heap.size < _; omega)).trans kb2_5_5'
  have kb2_6_6 := (hp6.cell (p := ⟨w4.heap.size, 6, none⟩) (by show w4.heap.size < _; omega)).trans kb2_6_5'
  have kb2_7_6 := (hp6.cell (p := ⟨w4.heap.size, 7, none⟩) (by show w4.heap.size < _; omega)).trans kb2_7_5'
  have hB6 := hB5'.trans (hp6.mono hB5'.size)
  have hz6 : w5.heap.size ≤ W6.heap.size := hp6.size
  have hl_b1_6 : w.heap.size < W6.heap.size := by omega
  have hl_b2_6 : w4.heap.size < W6.heap.size := by omega
  have HW6 := Lib.hid hW6; clear hW6
  clear ow0_3_0_5' ot4_0_5' ot4_1_5' og0_5_0_n kb1_0_5' kb1_1_5' kb1_2_5' kb1_3_5' kb1_4_5' kb1_5_5' kb1_6_5' kb1_7_5' kb2_0_5' kb2_1_5' kb2_2_5' kb2_3_5' kb2_4_5' kb2_5_5' kb2_6_5' kb2_7_5'
  refine (eqStringS_same Ar0_5 cr0_5 Ar0_3 cr0_3 ((fmtV v0)) _ og0_5_0_6.rd ow0_3_0_6.rd).mono ?_
  rintro e w6 ⟨rfl, hb6⟩
  try simp only [Vg.val]
  have ow0_3_0_6' := Row2.below ow0_3_0_6 hb6 (by omega)
  have ot4_0_6' := Row2.below ot4_0_6 hb6 (by omega)
  have ot4_1_6' := Row2.below ot4_1_6 hb6 (by omega)
  have og0_5_0_6' := Row2.below og0_5_0_6 hb6 (by omega)
  have kb1_0_6' := (hb6.cell (p := ⟨w.heap.size, 0, none⟩) (by show w.heap.size < _; omega)).trans kb1_0_6
  have kb1_1_6' := (hb6.cell (p := ⟨w.heap.size, 1, none⟩) (by show w.heap.size < _; omega)).trans kb1_1_6
  have kb1_2_6' := (hb6.cell (p := ⟨w.heap.size, 2, none⟩) (by show w.heap.size < _; omega)).trans kb1_2_6
  have kb1_3_6' := (hb6.cell (p := ⟨w.heap.size, 3, none⟩) (by show w.heap.size < _; omega)).trans kb1_3_6
  have kb1_4_6' := (hb6.cell (p := ⟨w.heap.size, 4, none⟩) (by show w.heap.size < _; omega)).trans kb1_4_6
  have kb1_5_6' := (hb6.cell (p := ⟨w.heap.size, 5, none⟩) (by show w.heap.size < _; omega)).trans kb1_5_6
  have kb1_6_6' := (hb6.cell (p := ⟨w.heap.size, 6, none⟩) (by show w.heap.size < _; omega)).trans kb1_6_6
  have kb1_7_6' := (hb6.cell (p := ⟨w.heap.size, 7, none⟩) (by show w.heap.size < _; omega)).trans kb1_7_6
  have kb2_0_6' := (hb6.cell (p := ⟨w4.heap.size, 0, none⟩) (by show w4.heap.size < _; omega)).trans kb2_0_6
  have kb2_1_6' := (hb6.cell (p := ⟨w4.heap.size, 1, none⟩) (by show w4.heap.size < _; omega)).trans kb2_1_6
  have kb2_2_6' := (hb6.cell (p := ⟨w4.heap.size, 2, none⟩) (by show w4.heap.size < _; omega)).trans kb2_2_6
  have kb2_3_6' := (hb6.cell (p := ⟨w4.heap.size, 3, none⟩) (by show w4.heap.size < _; omega)).trans kb2_3_6
  have kb2_4_6' := (hb6.cell (p := ⟨w4.heap.size, 4, none⟩) (by show w4.heap.size < _; omega)).trans kb2_4_6
  have kb2_5_6' := (hb6.cell (p := ⟨w4.heap.size, 5, none⟩) (by show w4.heap.size < _; omega)).trans kb2_5_6
  have kb2_6_6' := (hb6.cell (p := ⟨w4.heap.size, 6, none⟩) (by show w4.heap.size < _; omega)).trans kb2_6_6
  have kb2_7_6' := (hb6.cell (p := ⟨w4.heap.size, 7, none⟩) (by show w4.heap.size < _; omega)).trans kb2_7_6
  have hB6' := hB6.trans (hb6.mono hB6.size)
  have hz6' : W6.heap.size ≤ w6.heap.size := hb6.size
  have hl_b1_6' : w.heap.size < w6.heap.size := by omega
  have hl_b2_6' : w4.heap.size < w6.heap.size := by omega
  clear ow0_3_0_6 ot4_0_6 ot4_1_6 og0_5_0_6 kb1_0_6 kb1_1_6 kb1_2_6 kb1_3_6 kb1_4_6 kb1_5_6 kb1_6_6 kb1_7_6 kb2_0_6 kb2_1_6 kb2_2_6 kb2_3_6 kb2_4_6 kb2_5_6 kb2_6_6 kb2_7_6
  go_wp2_with fail
  go_region_held3 (fun w' => w'.cell? ⟨w4.heap.size, 0, none⟩ = some (.int .i64 v0.book.room) ∧ w'.cell? ⟨w4.heap.size, 1, none⟩ = some (.int .i64 v0.book.start) ∧ w'.cell? ⟨w4.heap.size, 2, none⟩ = some (.slice A'4 v0.book.evs.length c'4) ∧ w'.cell? ⟨w4.heap.size, 3, none⟩ = some (.int .i64 v0.book.level) ∧ w'.cell? ⟨w4.heap.size, 4, none⟩ = some (.int .i64 v0.book.rained) ∧ w'.cell? ⟨w4.heap.size, 5, none⟩ = some (.int .i64 v0.book.drunk) ∧ w'.cell? ⟨w4.heap.size, 6, none⟩ = some (.int .i64 v0.book.lost) ∧ w'.cell? ⟨w4.heap.size, 7, none⟩ = some (.slice R'4 v0.rights.length d'4) ∧ w'.cell? ⟨w.heap.size, 0, none⟩ = some (.int .i64 v0.book.room) ∧ w'.cell? ⟨w.heap.size, 1, none⟩ = some (.int .i64 v0.book.start) ∧ w'.cell? ⟨w.heap.size, 2, none⟩ = some (.slice A0 v0.book.evs.length c0) ∧ w'.cell? ⟨w.heap.size, 3, none⟩ = some (.int .i64 v0.book.level) ∧ w'.cell? ⟨w.heap.size, 4, none⟩ = some (.int .i64 v0.book.rained) ∧ w'.cell? ⟨w.heap.size, 5, none⟩ = some (.int .i64 v0.book.drunk) ∧ w'.cell? ⟨w.heap.size, 6, none⟩ = some (.int .i64 v0.book.lost) ∧ w'.cell? ⟨w.heap.size, 7, none⟩ = some (.slice R0 v0.rights.length d0)) (first | (with_reducible exact ⟨sa0_7, sa1_7, sa2_7, sa3_7, sa4_7, sa5_7, sa6_7, sa7_7, sa8_7, sa9_7, sa10_7, sa11_7, sa12_7, sa13_7, sa14_7, sa15_7⟩) | (with_reducible exact ⟨sb0_8, sb1_8, sb2_8, sb3_8, sb4_8, sb5_8, sb6_8, sb7_8, sb8_8, sb9_8, sb10_8, sb11_8, sb12_8, sb13_8, sb14_8, sb15_8⟩) | exact ⟨kb2_0_6', kb2_1_6', kb2_2_6', kb2_3_6', kb2_4_6', kb2_5_6', kb2_6_6', kb2_7_6', kb1_0_6', kb1_1_6', kb1_2_6', kb1_3_6', kb1_4_6', kb1_5_6', kb1_6_6', kb1_7_6'⟩)
    (first | (go_at_call 16; refine (toVillage_any A0 c0 R0 d0 v0 _ (Rd.later h0_0 hB6'.drew) (Rd.later h0_1 hB6'.drew) hs0).mono ?_; rintro e w7 ⟨A'7, c'7, R'7, d'7, rfl, ho0_7, ho1_7, hb7⟩; try simp only [Vg.val]; have sa0_7 := (hb7.cell (p := ⟨w4.heap.size, 0, none⟩) (by show w4.heap.size < w6.heap.size; omega)).trans kb2_0_6'; have sa1_7 := (hb7.cell (p := ⟨w4.heap.size, 1, none⟩) (by show w4.heap.size < w6.heap.size; omega)).trans kb2_1_6'; have sa2_7 := (hb7.cell (p := ⟨w4.heap.size, 2, none⟩) (by show w4.heap.size < w6.heap.size; omega)).trans kb2_2_6'; have sa3_7 := (hb7.cell (p := ⟨w4.heap.size, 3, none⟩) (by show w4.heap.size < w6.heap.size; omega)).trans kb2_3_6'; have sa4_7 := (hb7.cell (p := ⟨w4.heap.size, 4, none⟩) (by show w4.heap.size < w6.heap.size; omega)).trans kb2_4_6'; have sa5_7 := (hb7.cell (p := ⟨w4.heap.size, 5, none⟩) (by show w4.heap.size < w6.heap.size; omega)).trans kb2_5_6'; have sa6_7 := (hb7.cell (p := ⟨w4.heap.size, 6, none⟩) (by show w4.heap.size < w6.heap.size; omega)).trans kb2_6_6'; have sa7_7 := (hb7.cell (p := ⟨w4.heap.size, 7, none⟩) (by show w4.heap.size < w6.heap.size; omega)).trans kb2_7_6'; have sa8_7 := (hb7.cell (p := ⟨w.heap.size, 0, none⟩) (by show w.heap.size < w6.heap.size; omega)).trans kb1_0_6'; have sa9_7 := (hb7.cell (p := ⟨w.heap.size, 1, none⟩) (by show w.heap.size < w6.heap.size; omega)).trans kb1_1_6'; have sa10_7 := (hb7.cell (p := ⟨w.heap.size, 2, none⟩) (by show w.heap.size < w6.heap.size; omega)).trans kb1_2_6'; have sa11_7 := (hb7.cell (p := ⟨w.heap.size, 3, none⟩) (by show w.heap.size < w6.heap.size; omega)).trans kb1_3_6'; have sa12_7 := (hb7.cell (p := ⟨w.heap.size, 4, none⟩) (by show w.heap.size < w6.heap.size; omega)).trans kb1_4_6'; have sa13_7 := (hb7.cell (p := ⟨w.heap.size, 5, none⟩) (by show w.heap.size < w6.heap.size; omega)).trans kb1_5_6'; have sa14_7 := (hb7.cell (p := ⟨w.heap.size, 6, none⟩) (by show w.heap.size < w6.heap.size; omega)).trans kb1_6_6'; have sa15_7 := (hb7.cell (p := ⟨w.heap.size, 7, none⟩) (by show w.heap.size < w6.heap.size; omega)).trans kb1_7_6') | (go_at_call 19; refine (eqVillage_same A'4 c'4 R'4 d'4 A'7 c'7 R'7 d'7 (v0) _ (Row2.below (Row2.drew ot4_0_6') hb7 (by show _ ≤ w6.heap.size; omega)).rd (Row2.below (Row2.drew ot4_1_6') hb7 (by show _ ≤ w6.heap.size; omega)).rd (Row2.born ho0_7).rd (Row2.born ho1_7).rd).mono ?_; rintro e w8 ⟨rfl, hb8⟩; have sb0_8 := (hb8.cell (p := ⟨w4.heap.size, 0, none⟩) (by show w4.heap.size < _; have := hb7.size; have : w6.heap.size ≤ w7.heap.size := this; omega)).trans sa0_7; have sb1_8 := (hb8.cell (p := ⟨w4.heap.size, 1, none⟩) (by show w4.heap.size < _; have := hb7.size; have : w6.heap.size ≤ w7.heap.size := this; omega)).trans sa1_7; have sb2_8 := (hb8.cell (p := ⟨w4.heap.size, 2, none⟩) (by show w4.heap.size < _; have := hb7.size; have : w6.heap.size ≤ w7.heap.size := this; omega)).trans sa2_7; have sb3_8 := (hb8.cell (p := ⟨w4.heap.size, 3, none⟩) (by show w4.heap.size < _; have := hb7.size; have : w6.heap.size ≤ w7.heap.size := this; omega)).trans sa3_7; have sb4_8 := (hb8.cell (p := ⟨w4.heap.size, 4, none⟩) (by show w4.heap.size < _; have := hb7.size; have : w6.heap.size ≤ w7.heap.size := this; omega)).trans sa4_7; have sb5_8 := (hb8.cell (p := ⟨w4.heap.size, 5, none⟩) (by show w4.heap.size < _; have := hb7.size; have : w6.heap.size ≤ w7.heap.size := this; omega)).trans sa5_7; have sb6_8 := (hb8.cell (p := ⟨w4.heap.size, 6, none⟩) (by show w4.heap.size < _; have := hb7.size; have : w6.heap.size ≤ w7.heap.size := this; omega)).trans sa6_7; have sb7_8 := (hb8.cell (p := ⟨w4.heap.size, 7, none⟩) (by show w4.heap.size < _; have := hb7.size; have : w6.heap.size ≤ w7.heap.size := this; omega)).trans sa7_7; have sb8_8 := (hb8.cell (p := ⟨w.heap.size, 0, none⟩) (by show w.heap.size < _; have := hb7.size; have : w6.heap.size ≤ w7.heap.size := this; omega)).trans sa8_7; have sb9_8 := (hb8.cell (p := ⟨w.heap.size, 1, none⟩) (by show w.heap.size < _; have := hb7.size; have : w6.heap.size ≤ w7.heap.size := this; omega)).trans sa9_7; have sb10_8 := (hb8.cell (p := ⟨w.heap.size, 2, none⟩) (by show w.heap.size < _; have := hb7.size; have : w6.heap.size ≤ w7.heap.size := this; omega)).trans sa10_7; have sb11_8 := (hb8.cell (p := ⟨w.heap.size, 3, none⟩) (by show w.heap.size < _; have := hb7.size; have : w6.heap.size ≤ w7.heap.size := this; omega)).trans sa11_7; have sb12_8 := (hb8.cell (p := ⟨w.heap.size, 4, none⟩) (by show w.heap.size < _; have := hb7.size; have : w6.heap.size ≤ w7.heap.size := this; omega)).trans sa12_7; have sb13_8 := (hb8.cell (p := ⟨w.heap.size, 5, none⟩) (by show w.heap.size < _; have := hb7.size; have : w6.heap.size ≤ w7.heap.size := this; omega)).trans sa13_7; have sb14_8 := (hb8.cell (p := ⟨w.heap.size, 6, none⟩) (by show w.heap.size < _; have := hb7.size; have : w6.heap.size ≤ w7.heap.size := this; omega)).trans sa14_7; have sb15_8 := (hb8.cell (p := ⟨w.heap.size, 7, none⟩) (by show w.heap.size < _; have := hb7.size; have : w6.heap.size ≤ w7.heap.size := this; omega)).trans sa15_7))
  have hb7d := below_of_drew hb7
  have ow0_3_0_7' := Row2.below ow0_3_0_6' hb7d (by omega)
  have ot4_0_7' := Row2.below ot4_0_6' hb7d (by omega)
  have ot4_1_7' := Row2.below ot4_1_6' hb7d (by omega)
  have og0_5_0_7' := Row2.below og0_5_0_6' hb7d (by omega)
  have kb1_0_7' := (hb7d.cell (p := ⟨w.heap.size, 0, none⟩) (by show w.heap.size < _; omega)).trans kb1_0_6'
  have kb1_1_7' := (hb7d.cell (p := ⟨w.heap.size, 1, none⟩) (by show w.heap.size < _; omega)).trans kb1_1_6'
  have kb1_2_7' := (hb7d.cell (p := ⟨w.heap.size, 2, none⟩) (by show w.heap.size < _; omega)).trans kb1_2_6'
  have kb1_3_7' := (hb7d.cell (p := ⟨w.heap.size, 3, none⟩) (by show w.heap.size < _; omega)).trans kb1_3_6'
  have kb1_4_7' := (hb7d.cell (p := ⟨w.heap.size, 4, none⟩) (by show w.heap.size < _; omega)).trans kb1_4_6'
  have kb1_5_7' := (hb7d.cell (p := ⟨w.heap.size, 5, none⟩) (by show w.heap.size < _; omega)).trans kb1_5_6'
  have kb1_6_7' := (hb7d.cell (p := ⟨w.heap.size, 6, none⟩) (by show w.heap.size < _; omega)).trans kb1_6_6'
  have kb1_7_7' := (hb7d.cell (p := ⟨w.heap.size, 7, none⟩) (by show w.heap.size < _; omega)).trans kb1_7_6'
  have kb2_0_7' := (hb7d.cell (p := ⟨w4.heap.size, 0, none⟩) (by show w4.heap.size < _; omega)).trans kb2_0_6'
  have kb2_1_7' := (hb7d.cell (p := ⟨w4.heap.size, 1, none⟩) (by show w4.heap.size < _; omega)).trans kb2_1_6'
  have kb2_2_7' := (hb7d.cell (p := ⟨w4.heap.size, 2, none⟩) (by show w4.heap.size < _; omega)).trans kb2_2_6'
  have kb2_3_7' := (hb7d.cell (p := ⟨w4.heap.size, 3, none⟩) (by show w4.heap.size < _; omega)).trans kb2_3_6'
  have kb2_4_7' := (hb7d.cell (p := ⟨w4.heap.size, 4, none⟩) (by show w4.heap.size < _; omega)).trans kb2_4_6'
  have kb2_5_7' := (hb7d.cell (p := ⟨w4.heap.size, 5, none⟩) (by show w4.heap.size < _; omega)).trans kb2_5_6'
  have kb2_6_7' := (hb7d.cell (p := ⟨w4.heap.size, 6, none⟩) (by show w4.heap.size < _; omega)).trans kb2_6_6'
  have kb2_7_7' := (hb7d.cell (p := ⟨w4.heap.size, 7, none⟩) (by show w4.heap.size < _; omega)).trans kb2_7_6'
  have hB7' := hB6'.trans (hb7d.mono hB6'.size)
  have hz7' : w6.heap.size ≤ w7.heap.size := hb7d.size
  have hl_b1_7' : w.heap.size < w7.heap.size := by omega
  have hl_b2_7' : w4.heap.size < w7.heap.size := by omega
  have ow0_3_0_8' := Row2.below ow0_3_0_7' hb8 (by omega)
  have ot4_0_8' := Row2.below ot4_0_7' hb8 (by omega)
  have ot4_1_8' := Row2.below ot4_1_7' hb8 (by omega)
  have og0_5_0_8' := Row2.below og0_5_0_7' hb8 (by omega)
  have kb1_0_8' := (hb8.cell (p := ⟨w.heap.size, 0, none⟩) (by show w.heap.size < _; omega)).trans kb1_0_7'
  have kb1_1_8' := (hb8.cell (p := ⟨w.heap.size, 1, none⟩) (by show w.heap.size < _; omega)).trans kb1_1_7'
  have kb1_2_8' := (hb8.cell (p := ⟨w.heap.size, 2, none⟩) (by show w.heap.size < _; omega)).trans kb1_2_7'
  have kb1_3_8' := (hb8.cell (p := ⟨w.heap.size, 3, none⟩) (by show w.heap.size < _; omega)).trans kb1_3_7'
  have kb1_4_8' := (hb8.cell (p := ⟨w.heap.size, 4, none⟩) (by show w.heap.size < _; omega)).trans kb1_4_7'
  have kb1_5_8' := (hb8.cell (p := ⟨w.heap.size, 5, none⟩) (by show w.heap.size < _; omega)).trans kb1_5_7'
  have kb1_6_8' := (hb8.cell (p := ⟨w.heap.size, 6, none⟩) (by show w.heap.size < _; omega)).trans kb1_6_7'
  have kb1_7_8' := (hb8.cell (p := ⟨w.heap.size, 7, none⟩) (by show w.heap.size < _; omega)).trans kb1_7_7'
  have kb2_0_8' := (hb8.cell (p := ⟨w4.heap.size, 0, none⟩) (by show w4.heap.size < _; omega)).trans kb2_0_7'
  have kb2_1_8' := (hb8.cell (p := ⟨w4.heap.size, 1, none⟩) (by show w4.heap.size < _; omega)).trans kb2_1_7'
  have kb2_2_8' := (hb8.cell (p := ⟨w4.heap.size, 2, none⟩) (by show w4.heap.size < _; omega)).trans kb2_2_7'
  have kb2_3_8' := (hb8.cell (p := ⟨w4.heap.size, 3, none⟩) (by show w4.heap.size < _; omega)).trans kb2_3_7'
  have kb2_4_8' := (hb8.cell (p := ⟨w4.heap.size, 4, none⟩) (by show w4.heap.size < _; omega)).trans kb2_4_7'
  have kb2_5_8' := (hb8.cell (p := ⟨w4.heap.size, 5, none⟩) (by show w4.heap.size < _; omega)).trans kb2_5_7'
  have kb2_6_8' := (hb8.cell (p := ⟨w4.heap.size, 6, none⟩) (by show w4.heap.size < _; omega)).trans kb2_6_7'
  have kb2_7_8' := (hb8.cell (p := ⟨w4.heap.size, 7, none⟩) (by show w4.heap.size < _; omega)).trans kb2_7_7'
  have hB8' := hB7'.trans (hb8.mono hB7'.size)
  have hz8' : w7.heap.size ≤ w8.heap.size := hb8.size
  have hl_b1_8' : w.heap.size < w8.heap.size := by omega
  have hl_b2_8' : w4.heap.size < w8.heap.size := by omega
  clear sa0_7 sb0_8 sa1_7 sb1_8 sa2_7 sb2_8 sa3_7 sb3_8 sa4_7 sb4_8 sa5_7 sb5_8 sa6_7 sb6_8 sa7_7 sb7_8 sa8_7 sb8_8 sa9_7 sb9_8 sa10_7 sb10_8 sa11_7 sb11_8 sa12_7 sb12_8 sa13_7 sb13_8 sa14_7 sb14_8 sa15_7 sb15_8 ow0_3_0_6' ot4_0_6' ot4_1_6' og0_5_0_6' kb1_0_6' kb1_1_6' kb1_2_6' kb1_3_6' kb1_4_6' kb1_5_6' kb1_6_6' kb1_7_6' kb2_0_6' kb2_1_6' kb2_2_6' kb2_3_6' kb2_4_6' kb2_5_6' kb2_6_6' kb2_7_6' ow0_3_0_7' ot4_0_7' ot4_1_7' og0_5_0_7' kb1_0_7' kb1_1_7' kb1_2_7' kb1_3_7' kb1_4_7' kb1_5_7' kb1_6_7' kb1_7_7' kb2_0_7' kb2_1_7' kb2_2_7' kb2_3_7' kb2_4_7' kb2_5_7' kb2_6_7' kb2_7_7' ho0_7 ho1_7
  go_wp2_with fail
  first | refine name_world ?_ | refine name_wp ?_
  intro W9 hW9
  have hp9 : Below w8.heap.size w8 W9 := by rw [hW9]; repeat' (first | (with_reducible exact Below.refl _ _) | (with_reducible refine Below.alloc ?_ ?_ _) | (with_reducible refine Below.setCell ?_ ?_ _) | (with_reducible refine Below.drew ?_) | (simp; done) | (simp; omega))
  have ow0_3_0_9 := Row2.below ow0_3_0_8' hp9 (by omega)
  have ot4_0_9 := Row2.below ot4_0_8' hp9 (by omega)
  have ot4_1_9 := Row2.below ot4_1_8' hp9 (by omega)
  have og0_5_0_9 := Row2.below og0_5_0_8' hp9 (by omega)
  have kb1_0_9 := (hp9.cell (p := ⟨w.heap.size, 0, none⟩) (by show w.heap.size < _; omega)).trans kb1_0_8'
  have kb1_1_9 := (hp9.cell (p := ⟨w.heap.size, 1, none⟩) (by show w.heap.size < _; omega)).trans kb1_1_8'
  have kb1_2_9 := (hp9.cell (p := ⟨w.heap.size, 2, none⟩) (by show w.heap.size < _; omega)).trans kb1_2_8'
  have kb1_3_9 := (hp9.cell (p := ⟨w.heap.size, 3, none⟩) (by show w.heap.size < _; omega)).trans kb1_3_8'
  have kb1_4_9 := (hp9.cell (p := ⟨w.heap.size, 4, none⟩) (by show w.heap.size < _; omega)).trans kb1_4_8'
  have kb1_5_9 := (hp9.cell (p := ⟨w.heap.size, 5, none⟩) (by show w.heap.size < _; omega)).trans kb1_5_8'
  have kb1_6_9 := (hp9.cell (p := ⟨w.heap.size, 6, none⟩) (by show w.heap.size < _; omega)).trans kb1_6_8'
  have kb1_7_9 := (hp9.cell (p := ⟨w.heap.size, 7, none⟩) (by show w.heap.size < _; omega)).trans kb1_7_8'
  have kb2_0_9 := (hp9.cell (p := ⟨w4.heap.size, 0, none⟩) (by show w4.heap.size < _; omega)).trans kb2_0_8'
  have kb2_1_9 := (hp9.cell (p := ⟨w4.heap.size, 1, none⟩) (by show w4.heap.size < _; omega)).trans kb2_1_8'
  have kb2_2_9 := (hp9.cell (p := ⟨w4.heap.size, 2, none⟩) (by show w4.heap.size < _; omega)).trans kb2_2_8'
  have kb2_3_9 := (hp9.cell (p := ⟨w4.heap.size, 3, none⟩) (by show w4.heap.size < _; omega)).trans kb2_3_8'
  have kb2_4_9 := (hp9.cell (p := ⟨w4.heap.size, 4, none⟩) (by show w4.heap.size < _; omega)).trans kb2_4_8'
  have kb2_5_9 := (hp9.cell (p := ⟨w4.heap.size, 5, none⟩) (by show w4.heap.size < _; omega)).trans kb2_5_8'
  have kb2_6_9 := (hp9.cell (p := ⟨w4.heap.size, 6, none⟩) (by show w4.heap.size < _; omega)).trans kb2_6_8'
  have kb2_7_9 := (hp9.cell (p := ⟨w4.heap.size, 7, none⟩) (by show w4.heap.size < _; omega)).trans kb2_7_8'
  have hB9 := hB8'.trans (hp9.mono hB8'.size)
  have hz9 : w8.heap.size ≤ W9.heap.size := hp9.size
  have hl_b1_9 : w.heap.size < W9.heap.size := by omega
  have hl_b2_9 : w4.heap.size < W9.heap.size := by omega
  have HW9 := Lib.hid hW9; clear hW9
  clear ow0_3_0_8' ot4_0_8' ot4_1_8' og0_5_0_8' kb1_0_8' kb1_1_8' kb1_2_8' kb1_3_8' kb1_4_8' kb1_5_8' kb1_6_8' kb1_7_8' kb2_0_8' kb2_1_8' kb2_2_8' kb2_3_8' kb2_4_8' kb2_5_8' kb2_6_8' kb2_7_8'
  refine (markVillage_2 A'4 c'4 R'4 d'4 _ _ (v0) (1) _ (by omega) _ ot4_0_9 ot4_1_9 (by first | omega | (simp; omega))).mono ?_
  rintro e w9 ⟨rfl, hm0_9, hm1_9, hc9⟩
  try simp only [Vg.val]
  have ow0_3_0_9' := Row2.chg ow0_3_0_9 hc9 (by omega)
  have og0_5_0_9' := Row2.chg og0_5_0_9 hc9 (by omega)
  have kb1_0_9' := (Chg.cell hc9 (p := ⟨w.heap.size, 0, none⟩) (by show w.heap.size < _; omega) (by show w.heap.size < _ ∨ _ ≤ w.heap.size; omega)).trans kb1_0_9
  have kb1_1_9' := (Chg.cell hc9 (p := ⟨w.heap.size, 1, none⟩) (by show w.heap.size < _; omega) (by show w.heap.size < _ ∨ _ ≤ w.heap.size; omega)).trans kb1_1_9
  have kb1_2_9' := (Chg.cell hc9 (p := ⟨w.heap.size, 2, none⟩) (by show w.heap.size < _; omega) (by show w.heap.size < _ ∨ _ ≤ w.heap.size; omega)).trans kb1_2_9
  have kb1_3_9' := (Chg.cell hc9 (p := ⟨w.heap.size, 3, none⟩) (by show w.heap.size < _; omega) (by show w.heap.size < _ ∨ _ ≤ w.heap.size; omega)).trans kb1_3_9
  have kb1_4_9' := (Chg.cell hc9 (p := ⟨w.heap.size, 4, none⟩) (by show w.heap.size < _; omega) (by show w.heap.size < _ ∨ _ ≤ w.heap.size; omega)).trans kb1_4_9
  have kb1_5_9' := (Chg.cell hc9 (p := ⟨w.heap.size, 5, none⟩) (by show w.heap.size < _; omega) (by show w.heap.size < _ ∨ _ ≤ w.heap.size; omega)).trans kb1_5_9
  have kb1_6_9' := (Chg.cell hc9 (p := ⟨w.heap.size, 6, none⟩) (by show w.heap.size < _; omega) (by show w.heap.size < _ ∨ _ ≤ w.heap.size; omega)).trans kb1_6_9
  have kb1_7_9' := (Chg.cell hc9 (p := ⟨w.heap.size, 7, none⟩) (by show w.heap.size < _; omega) (by show w.heap.size < _ ∨ _ ≤ w.heap.size; omega)).trans kb1_7_9
  have kb2_0_9' := (Chg.cell hc9 (p := ⟨w4.heap.size, 0, none⟩) (by show w4.heap.size < _; omega) (by show w4.heap.size < _ ∨ _ ≤ w4.heap.size; omega)).trans kb2_0_9
  have kb2_1_9' := (Chg.cell hc9 (p := ⟨w4.heap.size, 1, none⟩) (by show w4.heap.size < _; omega) (by show w4.heap.size < _ ∨ _ ≤ w4.heap.size; omega)).trans kb2_1_9
  have kb2_2_9' := (Chg.cell hc9 (p := ⟨w4.heap.size, 2, none⟩) (by show w4.heap.size < _; omega) (by show w4.heap.size < _ ∨ _ ≤ w4.heap.size; omega)).trans kb2_2_9
  have kb2_3_9' := (Chg.cell hc9 (p := ⟨w4.heap.size, 3, none⟩) (by show w4.heap.size < _; omega) (by show w4.heap.size < _ ∨ _ ≤ w4.heap.size; omega)).trans kb2_3_9
  have kb2_4_9' := (Chg.cell hc9 (p := ⟨w4.heap.size, 4, none⟩) (by show w4.heap.size < _; omega) (by show w4.heap.size < _ ∨ _ ≤ w4.heap.size; omega)).trans kb2_4_9
  have kb2_5_9' := (Chg.cell hc9 (p := ⟨w4.heap.size, 5, none⟩) (by show w4.heap.size < _; omega) (by show w4.heap.size < _ ∨ _ ≤ w4.heap.size; omega)).trans kb2_5_9
  have kb2_6_9' := (Chg.cell hc9 (p := ⟨w4.heap.size, 6, none⟩) (by show w4.heap.size < _; omega) (by show w4.heap.size < _ ∨ _ ≤ w4.heap.size; omega)).trans kb2_6_9
  have kb2_7_9' := (Chg.cell hc9 (p := ⟨w4.heap.size, 7, none⟩) (by show w4.heap.size < _; omega) (by show w4.heap.size < _ ∨ _ ≤ w4.heap.size; omega)).trans kb2_7_9
  have hB9' := Chg.below hB9 hc9 (by omega) hB9.size
  have hz9' : W9.heap.size ≤ w9.heap.size := hc9.size
  have hl_b1_9' : w.heap.size < w9.heap.size := by omega
  have hl_b2_9' : w4.heap.size < w9.heap.size := by omega
  clear ow0_3_0_9 ot4_0_9 ot4_1_9 og0_5_0_9 kb1_0_9 kb1_1_9 kb1_2_9 kb1_3_9 kb1_4_9 kb1_5_9 kb1_6_9 kb1_7_9 kb2_0_9 kb2_1_9 kb2_2_9 kb2_3_9 kb2_4_9 kb2_5_9 kb2_6_9 kb2_7_9
  go_wp2_with fail
  first | refine name_world ?_ | refine name_wp ?_
  intro W10 hW10
  have hp10 : Below w9.heap.size w9 W10 := by rw [hW10]; repeat' (first | (with_reducible exact Below.refl _ _) | (with_reducible refine Below.alloc ?_ ?_ _) | (with_reducible refine Below.setCell ?_ ?_ _) | (with_reducible refine Below.drew ?_) | (simp; done) | (simp; omega))
  have ow0_3_0_10 := Row2.below ow0_3_0_9' hp10 (by omega)
  have ot4_0_10 := Row2.below hm0_9 hp10 (by omega)
  have ot4_1_10 := Row2.below hm1_9 hp10 (by omega)
  have og0_5_0_10 := Row2.below og0_5_0_9' hp10 (by omega)
  have kb1_0_10 := (hp10.cell (p := ⟨w.heap.size, 0, none⟩) (by show w.heap.size < _; omega)).trans kb1_0_9'
  have kb1_1_10 := (hp10.cell (p := ⟨w.heap.size, 1, none⟩) (by show w.heap.size < _; omega)).trans kb1_1_9'
  have kb1_2_10 := (hp10.cell (p := ⟨w.heap.size, 2, none⟩) (by show w.heap.size < _; omega)).trans kb1_2_9'
  have kb1_3_10 := (hp10.cell (p := ⟨w.heap.size, 3, none⟩) (by show w.heap.size < _; omega)).trans kb1_3_9'
  have kb1_4_10 := (hp10.cell (p := ⟨w.heap.size, 4, none⟩) (by show w.heap.size < _; omega)).trans kb1_4_9'
  have kb1_5_10 := (hp10.cell (p := ⟨w.heap.size, 5, none⟩) (by show w.heap.size < _; omega)).trans kb1_5_9'
  have kb1_6_10 := (hp10.cell (p := ⟨w.heap.size, 6, none⟩) (by show w.heap.size < _; omega)).trans kb1_6_9'
  have kb1_7_10 := (hp10.cell (p := ⟨w.heap.size, 7, none⟩) (by show w.heap.size < _; omega)).trans kb1_7_9'
  have kb2_0_10 := (hp10.cell (p := ⟨w4.heap.size, 0, none⟩) (by show w4.heap.size < _; omega)).trans kb2_0_9'
  have kb2_1_10 := (hp10.cell (p := ⟨w4.heap.size, 1, none⟩) (by show w4.heap.size < _; omega)).trans kb2_1_9'
  have kb2_2_10 := (hp10.cell (p := ⟨w4.heap.size, 2, none⟩) (by show w4.heap.size < _; omega)).trans kb2_2_9'
  have kb2_3_10 := (hp10.cell (p := ⟨w4.heap.size, 3, none⟩) (by show w4.heap.size < _; omega)).trans kb2_3_9'
  have kb2_4_10 := (hp10.cell (p := ⟨w4.heap.size, 4, none⟩) (by show w4.heap.size < _; omega)).trans kb2_4_9'
  have kb2_5_10 := (hp10.cell (p := ⟨w4.heap.size, 5, none⟩) (by show w4.heap.size < _; omega)).trans kb2_5_9'
  have kb2_6_10 := (hp10.cell (p := ⟨w4.heap.size, 6, none⟩) (by show w4.heap.size < _; omega)).trans kb2_6_9'
  have kb2_7_10 := (hp10.cell (p := ⟨w4.heap.size, 7, none⟩) (by show w4.heap.size < _; omega)).trans kb2_7_9'
  have hB10 := hB9'.trans (hp10.mono hB9'.size)
  have hz10 : w9.heap.size ≤ W10.heap.size := hp10.size
  have hl_b1_10 : w.heap.size < W10.heap.size := by omega
  have hl_b2_10 : w4.heap.size < W10.heap.size := by omega
  have HW10 := Lib.hid hW10; clear hW10
  clear ow0_3_0_9' hm0_9 hm1_9 og0_5_0_9' kb1_0_9' kb1_1_9' kb1_2_9' kb1_3_9' kb1_4_9' kb1_5_9' kb1_6_9' kb1_7_9' kb2_0_9' kb2_1_9' kb2_2_9' kb2_3_9' kb2_4_9' kb2_5_9' kb2_6_9' kb2_7_9'
  refine (eqStringS_same Ar0_5 cr0_5 Ar0_3 cr0_3 ((fmtV v0)) _ og0_5_0_10.rd ow0_3_0_10.rd).mono ?_
  rintro e w10 ⟨rfl, hb10⟩
  try simp only [Vg.val]
  have ow0_3_0_10' := Row2.below ow0_3_0_10 hb10 (by omega)
  have ot4_0_10' := Row2.below ot4_0_10 hb10 (by omega)
  have ot4_1_10' := Row2.below ot4_1_10 hb10 (by omega)
  have og0_5_0_10' := Row2.below og0_5_0_10 hb10 (by omega)
  have kb1_0_10' := (hb10.cell (p := ⟨w.heap.size, 0, none⟩) (by show w.heap.size < _; omega)).trans kb1_0_10
  have kb1_1_10' := (hb10.cell (p := ⟨w.heap.size, 1, none⟩) (by show w.heap.size < _; omega)).trans kb1_1_10
  have kb1_2_10' := (hb10.cell (p := ⟨w.heap.size, 2, none⟩) (by show w.heap.size < _; omega)).trans kb1_2_10
  have kb1_3_10' := (hb10.cell (p := ⟨w.heap.size, 3, none⟩) (by show w.heap.size < _; omega)).trans kb1_3_10
  have kb1_4_10' := (hb10.cell (p := ⟨w.heap.size, 4, none⟩) (by show w.heap.size < _; omega)).trans kb1_4_10
  have kb1_5_10' := (hb10.cell (p := ⟨w.heap.size, 5, none⟩) (by show w.heap.size < _; omega)).trans kb1_5_10
  have kb1_6_10' := (hb10.cell (p := ⟨w.heap.size, 6, none⟩) (by show w.heap.size < _; omega)).trans kb1_6_10
  have kb1_7_10' := (hb10.cell (p := ⟨w.heap.size, 7, none⟩) (by show w.heap.size < _; omega)).trans kb1_7_10
  have kb2_0_10' := (hb10.cell (p := ⟨w4.heap.size, 0, none⟩) (by show w4.heap.size < _; omega)).trans kb2_0_10
  have kb2_1_10' := (hb10.cell (p := ⟨w4.heap.size, 1, none⟩) (by show w4.heap.size < _; omega)).trans kb2_1_10
  have kb2_2_10' := (hb10.cell (p := ⟨w4.heap.size, 2, none⟩) (by show w4.heap.size < _; omega)).trans kb2_2_10
  have kb2_3_10' := (hb10.cell (p := ⟨w4.heap.size, 3, none⟩) (by show w4.heap.size < _; omega)).trans kb2_3_10
  have kb2_4_10' := (hb10.cell (p := ⟨w4.heap.size, 4, none⟩) (by show w4.heap.size < _; omega)).trans kb2_4_10
  have kb2_5_10' := (hb10.cell (p := ⟨w4.heap.size, 5, none⟩) (by show w4.heap.size < _; omega)).trans kb2_5_10
  have kb2_6_10' := (hb10.cell (p := ⟨w4.heap.size, 6, none⟩) (by show w4.heap.size < _; omega)).trans kb2_6_10
  have kb2_7_10' := (hb10.cell (p := ⟨w4.heap.size, 7, none⟩) (by show w4.heap.size < _; omega)).trans kb2_7_10
  have hB10' := hB10.trans (hb10.mono hB10.size)
  have hz10' : W10.heap.size ≤ w10.heap.size := hb10.size
  have hl_b1_10' : w.heap.size < w10.heap.size := by omega
  have hl_b2_10' : w4.heap.size < w10.heap.size := by omega
  clear ow0_3_0_10 ot4_0_10 ot4_1_10 og0_5_0_10 kb1_0_10 kb1_1_10 kb1_2_10 kb1_3_10 kb1_4_10 kb1_5_10 kb1_6_10 kb1_7_10 kb2_0_10 kb2_1_10 kb2_2_10 kb2_3_10 kb2_4_10 kb2_5_10 kb2_6_10 kb2_7_10
  go_wp2_with fail
  first | refine name_world ?_ | refine name_wp ?_
  intro W11 hW11
  have hp11 : Below w10.heap.size w10 W11 := by rw [hW11]; repeat' (first | (with_reducible exact Below.refl _ _) | (with_reducible refine Below.alloc ?_ ?_ _) | (with_reducible refine Below.setCell ?_ ?_ _) | (with_reducible refine Below.drew ?_) | (simp; done) | (simp; omega))
  have ow0_3_0_11 := Row2.below ow0_3_0_10' hp11 (by omega)
  have ot4_0_11 := Row2.below ot4_0_10' hp11 (by omega)
  have ot4_1_11 := Row2.below ot4_1_10' hp11 (by omega)
  have og0_5_0_11 := Row2.below og0_5_0_10' hp11 (by omega)
  have kb1_0_11 := (hp11.cell (p := ⟨w.heap.size, 0, none⟩) (by show w.heap.size < _; omega)).trans kb1_0_10'
  have kb1_1_11 := (hp11.cell (p := ⟨w.heap.size, 1, none⟩) (by show w.heap.size < _; omega)).trans kb1_1_10'
  have kb1_2_11 := (hp11.cell (p := ⟨w.heap.size, 2, none⟩) (by show w.heap.size < _; omega)).trans kb1_2_10'
  have kb1_3_11 := (hp11.cell (p := ⟨w.heap.size, 3, none⟩) (by show w.heap.size < _; omega)).trans kb1_3_10'
  have kb1_4_11 := (hp11.cell (p := ⟨w.heap.size, 4, none⟩) (by show w.heap.size < _; omega)).trans kb1_4_10'
  have kb1_5_11 := (hp11.cell (p := ⟨w.heap.size, 5, none⟩) (by show w.heap.size < _; omega)).trans kb1_5_10'
  have kb1_6_11 := (hp11.cell (p := ⟨w.heap.size, 6, none⟩) (by show w.heap.size < _; omega)).trans kb1_6_10'
  have kb1_7_11 := (hp11.cell (p := ⟨w.heap.size, 7, none⟩) (by show w.heap.size < _; omega)).trans kb1_7_10'
  have kb2_0_11 := (hp11.cell (p := ⟨w4.heap.size, 0, none⟩) (by show w4.heap.size < _; omega)).trans kb2_0_10'
  have kb2_1_11 := (hp11.cell (p := ⟨w4.heap.size, 1, none⟩) (by show w4.heap.size < _; omega)).trans kb2_1_10'
  have kb2_2_11 := (hp11.cell (p := ⟨w4.heap.size, 2, none⟩) (by show w4.heap.size < _; omega)).trans kb2_2_10'
  have kb2_3_11 := (hp11.cell (p := ⟨w4.heap.size, 3, none⟩) (by show w4.heap.size < _; omega)).trans kb2_3_10'
  have kb2_4_11 := (hp11.cell (p := ⟨w4.heap.size, 4, none⟩) (by show w4.heap.size < _; omega)).trans kb2_4_10'
  have kb2_5_11 := (hp11.cell (p := ⟨w4.heap.size, 5, none⟩) (by show w4.heap.size < _; omega)).trans kb2_5_10'
  have kb2_6_11 := (hp11.cell (p := ⟨w4.heap.size, 6, none⟩) (by show w4.heap.size < _; omega)).trans kb2_6_10'
  have kb2_7_11 := (hp11.cell (p := ⟨w4.heap.size, 7, none⟩) (by show w4.heap.size < _; omega)).trans kb2_7_10'
  have hB11 := hB10'.trans (hp11.mono hB10'.size)
  have hz11 : w10.heap.size ≤ W11.heap.size := hp11.size
  have hl_b1_11 : w.heap.size < W11.heap.size := by omega
  have hl_b2_11 : w4.heap.size < W11.heap.size := by omega
  have HW11 := Lib.hid hW11; clear hW11
  clear ow0_3_0_10' ot4_0_10' ot4_1_10' og0_5_0_10' kb1_0_10' kb1_1_10' kb1_2_10' kb1_3_10' kb1_4_10' kb1_5_10' kb1_6_10' kb1_7_10' kb2_0_10' kb2_1_10' kb2_2_10' kb2_3_10' kb2_4_10' kb2_5_10' kb2_6_10' kb2_7_10'
  refine (markStringS_2 Ar0_5 cr0_5 _ _ ((fmtV v0)) (1) _ (by omega) _ og0_5_0_11 (by first | omega | (simp; omega)) (by first | omega | (simp; omega))).mono ?_
  rintro e w11 ⟨rfl, hm0_11, hc11⟩
  try simp only [Vg.val]
  have ow0_3_0_11' := Row2.chg ow0_3_0_11 hc11 (by omega)
  have ot4_0_11' := Row2.chg ot4_0_11 hc11 (by omega)
  have ot4_1_11' := Row2.chg ot4_1_11 hc11 (by omega)
  have kb1_0_11' := (Chg.cell hc11 (p := ⟨w.heap.size, 0, none⟩) (by show w.heap.size < _; omega) (by show w.heap.size < _ ∨ _ ≤ w.heap.size; omega)).trans kb1_0_11
  have kb1_1_11' := (Chg.cell hc11 (p := ⟨w.heap.size, 1, none⟩) (by show w.heap.size < _; omega) (by show w.heap.size < _ ∨ _ ≤ w.heap.size; omega)).trans kb1_1_11
  have kb1_2_11' := (Chg.cell hc11 (p := ⟨w.heap.size, 2, none⟩) (by show w.heap.size < _; omega) (by show w.heap.size < _ ∨ _ ≤ w.heap.size; omega)).trans kb1_2_11
  have kb1_3_11' := (Chg.cell hc11 (p := ⟨w.heap.size, 3, none⟩) (by show w.heap.size < _; omega) (by show w.heap.size < _ ∨ _ ≤ w.heap.size; omega)).trans kb1_3_11
  have kb1_4_11' := (Chg.cell hc11 (p := ⟨w.heap.size, 4, none⟩) (by show w.heap.size < _; omega) (by show w.heap.size < _ ∨ _ ≤ w.heap.size; omega)).trans kb1_4_11
  have kb1_5_11' := (Chg.cell hc11 (p := ⟨w.heap.size, 5, none⟩) (by show w.heap.size < _; omega) (by show w.heap.size < _ ∨ _ ≤ w.heap.size; omega)).trans kb1_5_11
  have kb1_6_11' := (Chg.cell hc11 (p := ⟨w.heap.size, 6, none⟩) (by show w.heap.size < _; omega) (by show w.heap.size < _ ∨ _ ≤ w.heap.size; omega)).trans kb1_6_11
  have kb1_7_11' := (Chg.cell hc11 (p := ⟨w.heap.size, 7, none⟩) (by show w.heap.size < _; omega) (by show w.heap.size < _ ∨ _ ≤ w.heap.size; omega)).trans kb1_7_11
  have kb2_0_11' := (Chg.cell hc11 (p := ⟨w4.heap.size, 0, none⟩) (by show w4.heap.size < _; omega) (by show w4.heap.size < _ ∨ _ ≤ w4.heap.size; omega)).trans kb2_0_11
  have kb2_1_11' := (Chg.cell hc11 (p := ⟨w4.heap.size, 1, none⟩) (by show w4.heap.size < _; omega) (by show w4.heap.size < _ ∨ _ ≤ w4.heap.size; omega)).trans kb2_1_11
  have kb2_2_11' := (Chg.cell hc11 (p := ⟨w4.heap.size, 2, none⟩) (by show w4.heap.size < _; omega) (by show w4.heap.size < _ ∨ _ ≤ w4.heap.size; omega)).trans kb2_2_11
  have kb2_3_11' := (Chg.cell hc11 (p := ⟨w4.heap.size, 3, none⟩) (by show w4.heap.size < _; omega) (by show w4.heap.size < _ ∨ _ ≤ w4.heap.size; omega)).trans kb2_3_11
  have kb2_4_11' := (Chg.cell hc11 (p := ⟨w4.heap.size, 4, none⟩) (by show w4.heap.size < _; omega) (by show w4.heap.size < _ ∨ _ ≤ w4.heap.size; omega)).trans kb2_4_11
  have kb2_5_11' := (Chg.cell hc11 (p := ⟨w4.heap.size, 5, none⟩) (by show w4.heap.size < _; omega) (by show w4.heap.size < _ ∨ _ ≤ w4.heap.size; omega)).trans kb2_5_11
  have kb2_6_11' := (Chg.cell hc11 (p := ⟨w4.heap.size, 6, none⟩) (by show w4.heap.size < _; omega) (by show w4.heap.size < _ ∨ _ ≤ w4.heap.size; omega)).trans kb2_6_11
  have kb2_7_11' := (Chg.cell hc11 (p := ⟨w4.heap.size, 7, none⟩) (by show w4.heap.size < _; omega) (by show w4.heap.size < _ ∨ _ ≤ w4.heap.size; omega)).trans kb2_7_11
  have hB11' := Chg.below hB11 hc11 (by omega) hB11.size
  have hz11' : W11.heap.size ≤ w11.heap.size := hc11.size
  have hl_b1_11' : w.heap.size < w11.heap.size := by omega
  have hl_b2_11' : w4.heap.size < w11.heap.size := by omega
  clear ow0_3_0_11 ot4_0_11 ot4_1_11 og0_5_0_11 kb1_0_11 kb1_1_11 kb1_2_11 kb1_3_11 kb1_4_11 kb1_5_11 kb1_6_11 kb1_7_11 kb2_0_11 kb2_1_11 kb2_2_11 kb2_3_11 kb2_4_11 kb2_5_11 kb2_6_11 kb2_7_11
  go_wp2_with fail
  first | refine name_world ?_ | refine name_wp ?_
  intro W12 hW12
  have hp12 : Below w11.heap.size w11 W12 := by rw [hW12]; repeat' (first | (with_reducible exact Below.refl _ _) | (with_reducible refine Below.alloc ?_ ?_ _) | (with_reducible refine Below.setCell ?_ ?_ _) | (with_reducible refine Below.drew ?_) | (simp; done) | (simp; omega))
  have ow0_3_0_12 := Row2.below ow0_3_0_11' hp12 (by omega)
  have ot4_0_12 := Row2.below ot4_0_11' hp12 (by omega)
  have ot4_1_12 := Row2.below ot4_1_11' hp12 (by omega)
  have og0_5_0_12 := Row2.below hm0_11 hp12 (by omega)
  have kb1_0_12 := (hp12.cell (p := ⟨w.heap.size, 0, none⟩) (by show w.heap.size < _; omega)).trans kb1_0_11'
  have kb1_1_12 := (hp12.cell (p := ⟨w.heap.size, 1, none⟩) (by show w.heap.size < _; omega)).trans kb1_1_11'
  have kb1_2_12 := (hp12.cell (p := ⟨w.heap.size, 2, none⟩) (by show w.heap.size < _; omega)).trans kb1_2_11'
  have kb1_3_12 := (hp12.cell (p := ⟨w.heap.size, 3, none⟩) (by show w.heap.size < _; omega)).trans kb1_3_11'
  have kb1_4_12 := (hp12.cell (p := ⟨w.heap.size, 4, none⟩) (by show w.heap.size < _; omega)).trans kb1_4_11'
  have kb1_5_12 := (hp12.cell (p := ⟨w.heap.size, 5, none⟩) (by show w.heap.size < _; omega)).trans kb1_5_11'
  have kb1_6_12 := (hp12.cell (p := ⟨w.heap.size, 6, none⟩) (by show w.heap.size < _; omega)).trans kb1_6_11'
  have kb1_7_12 := (hp12.cell (p := ⟨w.heap.size, 7, none⟩) (by show w.heap.size < _; omega)).trans kb1_7_11'
  have kb2_0_12 := (hp12.cell (p := ⟨w4.heap.size, 0, none⟩) (by show w4.heap.size < _; omega)).trans kb2_0_11'
  have kb2_1_12 := (hp12.cell (p := ⟨w4.heap.size, 1, none⟩) (by show w4.heap.size < _; omega)).trans kb2_1_11'
  have kb2_2_12 := (hp12.cell (p := ⟨w4.heap.size, 2, none⟩) (by show w4.heap.size < _; omega)).trans kb2_2_11'
  have kb2_3_12 := (hp12.cell (p := ⟨w4.heap.size, 3, none⟩) (by show w4.heap.size < _; omega)).trans kb2_3_11'
  have kb2_4_12 := (hp12.cell (p := ⟨w4.heap.size, 4, none⟩) (by show w4.heap.size < _; omega)).trans kb2_4_11'
  have kb2_5_12 := (hp12.cell (p := ⟨w4.heap.size, 5, none⟩) (by show w4.heap.size < _; omega)).trans kb2_5_11'
  have kb2_6_12 := (hp12.cell (p := ⟨w4.heap.size, 6, none⟩) (by show w4.heap.size < _; omega)).trans kb2_6_11'
  have kb2_7_12 := (hp12.cell (p := ⟨w4.heap.size, 7, none⟩) (by show w4.heap.size < _; omega)).trans kb2_7_11'
  have hB12 := hB11'.trans (hp12.mono hB11'.size)
  have hz12 : w11.heap.size ≤ W12.heap.size := hp12.size
  have hl_b1_12 : w.heap.size < W12.heap.size := by omega
  have hl_b2_12 : w4.heap.size < W12.heap.size := by omega
  have HW12 := Lib.hid hW12; clear hW12
  clear ow0_3_0_11' ot4_0_11' ot4_1_11' hm0_11 kb1_0_11' kb1_1_11' kb1_2_11' kb1_3_11' kb1_4_11' kb1_5_11' kb1_6_11' kb1_7_11' kb2_0_11' kb2_1_11' kb2_2_11' kb2_3_11' kb2_4_11' kb2_5_11' kb2_6_11' kb2_7_11'
  refine (heldStringS_2 Ar0_5 cr0_5 _ _ ((fmtV v0).length) (1) _ (by omega) _ og0_5_0_12 (by first | omega | (simp; omega)) (by first | omega | (simp; omega))).mono ?_
  rintro e w12 ⟨rfl, hb12⟩
  try simp only [Vg.val]
  have ow0_3_0_12' := Row2.below ow0_3_0_12 hb12 (by omega)
  have ot4_0_12' := Row2.below ot4_0_12 hb12 (by omega)
  have ot4_1_12' := Row2.below ot4_1_12 hb12 (by omega)
  have og0_5_0_12' := Row2.below og0_5_0_12 hb12 (by omega)
  have kb1_0_12' := (hb12.cell (p := ⟨w.heap.size, 0, none⟩) (by show w.heap.size < _; omega)).trans kb1_0_12
  have kb1_1_12' := (hb12.cell (p := ⟨w.heap.size, 1, none⟩) (by show w.heap.size < _; omega)).trans kb1_1_12
  have kb1_2_12' := (hb12.cell (p := ⟨w.heap.size, 2, none⟩) (by show w.heap.size < _; omega)).trans kb1_2_12
  have kb1_3_12' := (hb12.cell (p := ⟨w.heap.size, 3, none⟩) (by show w.heap.size < _; omega)).trans kb1_3_12
  have kb1_4_12' := (hb12.cell (p := ⟨w.heap.size, 4, none⟩) (by show w.heap.size < _; omega)).trans kb1_4_12
  have kb1_5_12' := (hb12.cell (p := ⟨w.heap.size, 5, none⟩) (by show w.heap.size < _; omega)).trans kb1_5_12
  have kb1_6_12' := (hb12.cell (p := ⟨w.heap.size, 6, none⟩) (by show w.heap.size < _; omega)).trans kb1_6_12
  have kb1_7_12' := (hb12.cell (p := ⟨w.heap.size, 7, none⟩) (by show w.heap.size < _; omega)).trans kb1_7_12
  have kb2_0_12' := (hb12.cell (p := ⟨w4.heap.size, 0, none⟩) (by show w4.heap.size < _; omega)).trans kb2_0_12
  have kb2_1_12' := (hb12.cell (p := ⟨w4.heap.size, 1, none⟩) (by show w4.heap.size < _; omega)).trans kb2_1_12
  have kb2_2_12' := (hb12.cell (p := ⟨w4.heap.size, 2, none⟩) (by show w4.heap.size < _; omega)).trans kb2_2_12
  have kb2_3_12' := (hb12.cell (p := ⟨w4.heap.size, 3, none⟩) (by show w4.heap.size < _; omega)).trans kb2_3_12
  have kb2_4_12' := (hb12.cell (p := ⟨w4.heap.size, 4, none⟩) (by show w4.heap.size < _; omega)).trans kb2_4_12
  have kb2_5_12' := (hb12.cell (p := ⟨w4.heap.size, 5, none⟩) (by show w4.heap.size < _; omega)).trans kb2_5_12
  have kb2_6_12' := (hb12.cell (p := ⟨w4.heap.size, 6, none⟩) (by show w4.heap.size < _; omega)).trans kb2_6_12
  have kb2_7_12' := (hb12.cell (p := ⟨w4.heap.size, 7, none⟩) (by show w4.heap.size < _; omega)).trans kb2_7_12
  have hB12' := hB12.trans (hb12.mono hB12.size)
  have hz12' : W12.heap.size ≤ w12.heap.size := hb12.size
  have hl_b1_12' : w.heap.size < w12.heap.size := by omega
  have hl_b2_12' : w4.heap.size < w12.heap.size := by omega
  clear ow0_3_0_12 ot4_0_12 ot4_1_12 og0_5_0_12 kb1_0_12 kb1_1_12 kb1_2_12 kb1_3_12 kb1_4_12 kb1_5_12 kb1_6_12 kb1_7_12 kb2_0_12 kb2_1_12 kb2_2_12 kb2_3_12 kb2_4_12 kb2_5_12 kb2_6_12 kb2_7_12
  go_wp2_with fail
  first | refine name_world ?_ | refine name_wp ?_
  intro W13 hW13
  have hp13 : Below w12.heap.size w12 W13 := by rw [hW13]; repeat' (first | (with_reducible exact Below.refl _ _) | (with_reducible refine Below.alloc ?_ ?_ _) | (with_reducible refine Below.setCell ?_ ?_ _) | (with_reducible refine Below.drew ?_) | (simp; done) | (simp; omega))
  have ow0_3_0_13 := Row2.below ow0_3_0_12' hp13 (by omega)
  have ot4_0_13 := Row2.below ot4_0_12' hp13 (by omega)
  have ot4_1_13 := Row2.below ot4_1_12' hp13 (by omega)
  have og0_5_0_13 := Row2.below og0_5_0_12' hp13 (by omega)
  have kb1_0_13 := (hp13.cell (p := ⟨w.heap.size, 0, none⟩) (by show w.heap.size < _; omega)).trans kb1_0_12'
  have kb1_1_13 := (hp13.cell (p := ⟨w.heap.size, 1, none⟩) (by show w.heap.size < _; omega)).trans kb1_1_12'
  have kb1_2_13 := (hp13.cell (p := ⟨w.heap.size, 2, none⟩) (by show w.heap.size < _; omega)).trans kb1_2_12'
  have kb1_3_13 := (hp13.cell (p := ⟨w.heap.size, 3, none⟩) (by show w.heap.size < _; omega)).trans kb1_3_12'
  have kb1_4_13 := (hp13.cell (p := ⟨w.heap.size, 4, none⟩) (by show w.heap.size < _; omega)).trans kb1_4_12'
  have kb1_5_13 := (hp13.cell (p := ⟨w.heap.size, 5, none⟩) (by show w.heap.size < _; omega)).trans kb1_5_12'
  have kb1_6_13 := (hp13.cell (p := ⟨w.heap.size, 6, none⟩) (by show w.heap.size < _; omega)).trans kb1_6_12'
  have kb1_7_13 := (hp13.cell (p := ⟨w.heap.size, 7, none⟩) (by show w.heap.size < _; omega)).trans kb1_7_12'
  have kb2_0_13 := (hp13.cell (p := ⟨w4.heap.size, 0, none⟩) (by show w4.heap.size < _; omega)).trans kb2_0_12'
  have kb2_1_13 := (hp13.cell (p := ⟨w4.heap.size, 1, none⟩) (by show w4.heap.size < _; omega)).trans kb2_1_12'
  have kb2_2_13 := (hp13.cell (p := ⟨w4.heap.size, 2, none⟩) (by show w4.heap.size < _; omega)).trans kb2_2_12'
  have kb2_3_13 := (hp13.cell (p := ⟨w4.heap.size, 3, none⟩) (by show w4.heap.size < _; omega)).trans kb2_3_12'
  have kb2_4_13 := (hp13.cell (p := ⟨w4.heap.size, 4, none⟩) (by show w4.heap.size < _; omega)).trans kb2_4_12'
  have kb2_5_13 := (hp13.cell (p := ⟨w4.heap.size, 5, none⟩) (by show w4.heap.size < _; omega)).trans kb2_5_12'
  have kb2_6_13 := (hp13.cell (p := ⟨w4.heap.size, 6, none⟩) (by show w4.heap.size < _; omega)).trans kb2_6_12'
  have kb2_7_13 := (hp13.cell (p := ⟨w4.heap.size, 7, none⟩) (by show w4.heap.size < _; omega)).trans kb2_7_12'
  have hB13 := hB12'.trans (hp13.mono hB12'.size)
  have hz13 : w12.heap.size ≤ W13.heap.size := hp13.size
  have hl_b1_13 : w.heap.size < W13.heap.size := by omega
  have hl_b2_13 : w4.heap.size < W13.heap.size := by omega
  have HW13 := Lib.hid hW13; clear hW13
  clear ow0_3_0_12' ot4_0_12' ot4_1_12' og0_5_0_12' kb1_0_12' kb1_1_12' kb1_2_12' kb1_3_12' kb1_4_12' kb1_5_12' kb1_6_12' kb1_7_12' kb2_0_12' kb2_1_12' kb2_2_12' kb2_3_12' kb2_4_12' kb2_5_12' kb2_6_12' kb2_7_12'
  refine (toVillage_any A0 c0 R0 d0 v0 _ (Rd.later h0_0 hB13) (Rd.later h0_1 hB13) hs0).mono ?_
  rintro e w13 ⟨A'13, c'13, R'13, d'13, rfl, ho0_13, ho1_13, hb13⟩
  try simp only [Vg.val]
  have ow0_3_0_13' := Row2.below ow0_3_0_13 hb13 (by omega)
  have ot4_0_13' := Row2.below ot4_0_13 hb13 (by omega)
  have ot4_1_13' := Row2.below ot4_1_13 hb13 (by omega)
  have og0_5_0_13' := Row2.below og0_5_0_13 hb13 (by omega)
  have kb1_0_13' := (hb13.cell (p := ⟨w.heap.size, 0, none⟩) (by show w.heap.size < _; omega)).trans kb1_0_13
  have kb1_1_13' := (hb13.cell (p := ⟨w.heap.size, 1, none⟩) (by show w.heap.size < _; omega)).trans kb1_1_13
  have kb1_2_13' := (hb13.cell (p := ⟨w.heap.size, 2, none⟩) (by show w.heap.size < _; omega)).trans kb1_2_13
  have kb1_3_13' := (hb13.cell (p := ⟨w.heap.size, 3, none⟩) (by show w.heap.size < _; omega)).trans kb1_3_13
  have kb1_4_13' := (hb13.cell (p := ⟨w.heap.size, 4, none⟩) (by show w.heap.size < _; omega)).trans kb1_4_13
  have kb1_5_13' := (hb13.cell (p := ⟨w.heap.size, 5, none⟩) (by show w.heap.size < _; omega)).trans kb1_5_13
  have kb1_6_13' := (hb13.cell (p := ⟨w.heap.size, 6, none⟩) (by show w.heap.size < _; omega)).trans kb1_6_13
  have kb1_7_13' := (hb13.cell (p := ⟨w.heap.size, 7, none⟩) (by show w.heap.size < _; omega)).trans kb1_7_13
  have kb2_0_13' := (hb13.cell (p := ⟨w4.heap.size, 0, none⟩) (by show w4.heap.size < _; omega)).trans kb2_0_13
  have kb2_1_13' := (hb13.cell (p := ⟨w4.heap.size, 1, none⟩) (by show w4.heap.size < _; omega)).trans kb2_1_13
  have kb2_2_13' := (hb13.cell (p := ⟨w4.heap.size, 2, none⟩) (by show w4.heap.size < _; omega)).trans kb2_2_13
  have kb2_3_13' := (hb13.cell (p := ⟨w4.heap.size, 3, none⟩) (by show w4.heap.size < _; omega)).trans kb2_3_13
  have kb2_4_13' := (hb13.cell (p := ⟨w4.heap.size, 4, none⟩) (by show w4.heap.size < _; omega)).trans kb2_4_13
  have kb2_5_13' := (hb13.cell (p := ⟨w4.heap.size, 5, none⟩) (by show w4.heap.size < _; omega)).trans kb2_5_13
  have kb2_6_13' := (hb13.cell (p := ⟨w4.heap.size, 6, none⟩) (by show w4.heap.size < _; omega)).trans kb2_6_13
  have kb2_7_13' := (hb13.cell (p := ⟨w4.heap.size, 7, none⟩) (by show w4.heap.size < _; omega)).trans kb2_7_13
  have hB13' := hB13.trans (hb13.mono hB13.size)
  have hz13' : W13.heap.size ≤ w13.heap.size := hb13.size
  have hl_b1_13' : w.heap.size < w13.heap.size := by omega
  have hl_b2_13' : w4.heap.size < w13.heap.size := by omega
  have ot13_0_n := Row2.born ho0_13
  have ot13_1_n := Row2.born ho1_13
  clear ow0_3_0_13 ot4_0_13 ot4_1_13 og0_5_0_13 kb1_0_13 kb1_1_13 kb1_2_13 kb1_3_13 kb1_4_13 kb1_5_13 kb1_6_13 kb1_7_13 kb2_0_13 kb2_1_13 kb2_2_13 kb2_3_13 kb2_4_13 kb2_5_13 kb2_6_13 kb2_7_13 ho0_13 ho1_13
  go_wp2_with fail
  first | refine name_world ?_ | refine name_wp ?_
  intro W14 hW14
  have hp14 : Below w13.heap.size w13 W14 := by rw [hW14]; repeat' (first | (with_reducible exact Below.refl _ _) | (with_reducible refine Below.alloc ?_ ?_ _) | (with_reducible refine Below.setCell ?_ ?_ _) | (with_reducible refine Below.drew ?_) | (simp; done) | (simp; omega))
  have ow0_3_0_14 := Row2.below ow0_3_0_13' hp14 (by omega)
  have ot4_0_14 := Row2.below ot4_0_13' hp14 (by omega)
  have ot4_1_14 := Row2.below ot4_1_13' hp14 (by omega)
  have og0_5_0_14 := Row2.below og0_5_0_13' hp14 (by omega)
  have ot13_0_14 := Row2.below ot13_0_n hp14 (by omega)
  have ot13_1_14 := Row2.below ot13_1_n hp14 (by omega)
  have kb1_0_14 := (hp14.cell (p := ⟨w.heap.size, 0, none⟩) (by show w.heap.size < _; omega)).trans kb1_0_13'
  have kb1_1_14 := (hp14.cell (p := ⟨w.heap.size, 1, none⟩) (by show w.heap.size < _; omega)).trans kb1_1_13'
  have kb1_2_14 := (hp14.cell (p := ⟨w.heap.size, 2, none⟩) (by show w.heap.size < _; omega)).trans kb1_2_13'
  have kb1_3_14 := (hp14.cell (p := ⟨w.heap.size, 3, none⟩) (by show w.heap.size < _; omega)).trans kb1_3_13'
  have kb1_4_14 := (hp14.cell (p := ⟨w.heap.size, 4, none⟩) (by show w.heap.size < _; omega)).trans kb1_4_13'
  have kb1_5_14 := (hp14.cell (p := ⟨w.heap.size, 5, none⟩) (by show w.heap.size < _; omega)).trans kb1_5_13'
  have kb1_6_14 := (hp14.cell (p := ⟨w.heap.size, 6, none⟩) (by show w.heap.size < _; omega)).trans kb1_6_13'
  have kb1_7_14 := (hp14.cell (p := ⟨w.heap.size, 7, none⟩) (by show w.heap.size < _; omega)).trans kb1_7_13'
  have kb2_0_14 := (hp14.cell (p := ⟨w4.heap.size, 0, none⟩) (by show w4.heap.size < _; omega)).trans kb2_0_13'
  have kb2_1_14 := (hp14.cell (p := ⟨w4.heap.size, 1, none⟩) (by show w4.heap.size < _; omega)).trans kb2_1_13'
  have kb2_2_14 := (hp14.cell (p := ⟨w4.heap.size, 2, none⟩) (by show w4.heap.size < _; omega)).trans kb2_2_13'
  have kb2_3_14 := (hp14.cell (p := ⟨w4.heap.size, 3, none⟩) (by show w4.heap.size < _; omega)).trans kb2_3_13'
  have kb2_4_14 := (hp14.cell (p := ⟨w4.heap.size, 4, none⟩) (by show w4.heap.size < _; omega)).trans kb2_4_13'
  have kb2_5_14 := (hp14.cell (p := ⟨w4.heap.size, 5, none⟩) (by show w4.heap.size < _; omega)).trans kb2_5_13'
  have kb2_6_14 := (hp14.cell (p := ⟨w4.heap.size, 6, none⟩) (by show w4.heap.size < _; omega)).trans kb2_6_13'
  have kb2_7_14 := (hp14.cell (p := ⟨w4.heap.size, 7, none⟩) (by show w4.heap.size < _; omega)).trans kb2_7_13'
  have hB14 := hB13'.trans (hp14.mono hB13'.size)
  have hz14 : w13.heap.size ≤ W14.heap.size := hp14.size
  have hl_b1_14 : w.heap.size < W14.heap.size := by omega
  have hl_b2_14 : w4.heap.size < W14.heap.size := by omega
  have HW14 := Lib.hid hW14; clear hW14
  clear ow0_3_0_13' ot4_0_13' ot4_1_13' og0_5_0_13' ot13_0_n ot13_1_n kb1_0_13' kb1_1_13' kb1_2_13' kb1_3_13' kb1_4_13' kb1_5_13' kb1_6_13' kb1_7_13' kb2_0_13' kb2_1_13' kb2_2_13' kb2_3_13' kb2_4_13' kb2_5_13' kb2_6_13' kb2_7_13'
  refine (FormatVillage_any A'13 c'13 R'13 d'13 v0 _ ot13_0_14.rd ot13_1_14.rd (by omega) (ht.below hB14)).mono ?_
  rintro e w14 ⟨Ar0_14, cr0_14, rfl, ho0_14, hb14⟩
  try simp only [Vg.val]
  have ow0_3_0_14' := Row2.below ow0_3_0_14 hb14 (by omega)
  have ot4_0_14' := Row2.below ot4_0_14 hb14 (by omega)
  have ot4_1_14' := Row2.below ot4_1_14 hb14 (by omega)
  have og0_5_0_14' := Row2.below og0_5_0_14 hb14 (by omega)
  have ot13_0_14' := Row2.below ot13_0_14 hb14 (by omega)
  have ot13_1_14' := Row2.below ot13_1_14 hb14 (by omega)
  have kb1_0_14' := (hb14.cell (p := ⟨w.heap.size, 0, none⟩) (by show w.heap.size < _; omega)).trans kb1_0_14
  have kb1_1_14' := (hb14.cell (p := ⟨w.heap.size, 1, none⟩) (by show w.heap.size < _; omega)).trans kb1_1_14
  have kb1_2_14' := (hb14.cell (p := ⟨w.heap.size, 2, none⟩) (by show w.heap.size < _; omega)).trans kb1_2_14
  have kb1_3_14' := (hb14.cell (p := ⟨w.heap.size, 3, none⟩) (by show w.heap.size < _; omega)).trans kb1_3_14
  have kb1_4_14' := (hb14.cell (p := ⟨w.heap.size, 4, none⟩) (by show w.heap.size < _; omega)).trans kb1_4_14
  have kb1_5_14' := (hb14.cell (p := ⟨w.heap.size, 5, none⟩) (by show w.heap.size < _; omega)).trans kb1_5_14
  have kb1_6_14' := (hb14.cell (p := ⟨w.heap.size, 6, none⟩) (by show w.heap.size < _; omega)).trans kb1_6_14
  have kb1_7_14' := (hb14.cell (p := ⟨w.heap.size, 7, none⟩) (by show w.heap.size < _; omega)).trans kb1_7_14
  have kb2_0_14' := (hb14.cell (p := ⟨w4.heap.size, 0, none⟩) (by show w4.heap.size < _; omega)).trans kb2_0_14
  have kb2_1_14' := (hb14.cell (p := ⟨w4.heap.size, 1, none⟩) (by show w4.heap.size < _; omega)).trans kb2_1_14
  have kb2_2_14' := (hb14.cell (p := ⟨w4.heap.size, 2, none⟩) (by show w4.heap.size < _; omega)).trans kb2_2_14
  have kb2_3_14' := (hb14.cell (p := ⟨w4.heap.size, 3, none⟩) (by show w4.heap.size < _; omega)).trans kb2_3_14
  have kb2_4_14' := (hb14.cell (p := ⟨w4.heap.size, 4, none⟩) (by show w4.heap.size < _; omega)).trans kb2_4_14
  have kb2_5_14' := (hb14.cell (p := ⟨w4.heap.size, 5, none⟩) (by show w4.heap.size < _; omega)).trans kb2_5_14
  have kb2_6_14' := (hb14.cell (p := ⟨w4.heap.size, 6, none⟩) (by show w4.heap.size < _; omega)).trans kb2_6_14
  have kb2_7_14' := (hb14.cell (p := ⟨w4.heap.size, 7, none⟩) (by show w4.heap.size < _; omega)).trans kb2_7_14
  have hB14' := hB14.trans (hb14.mono hB14.size)
  have hz14' : W14.heap.size ≤ w14.heap.size := hb14.size
  have hl_b1_14' : w.heap.size < w14.heap.size := by omega
  have hl_b2_14' : w4.heap.size < w14.heap.size := by omega
  have oh0_14_0_n := Row2.born ho0_14
  clear ow0_3_0_14 ot4_0_14 ot4_1_14 og0_5_0_14 ot13_0_14 ot13_1_14 kb1_0_14 kb1_1_14 kb1_2_14 kb1_3_14 kb1_4_14 kb1_5_14 kb1_6_14 kb1_7_14 kb2_0_14 kb2_1_14 kb2_2_14 kb2_3_14 kb2_4_14 kb2_5_14 kb2_6_14 kb2_7_14 ho0_14
  go_wp2_with fail
  first | refine name_world ?_ | refine name_wp ?_
  intro W15 hW15
  have hp15 : Below w14.heap.size w14 W15 := by rw [hW15]; repeat' (first | (with_reducible exact Below.refl _ _) | (with_reducible refine Below.alloc ?_ ?_ _) | (with_reducible refine Below.setCell ?_ ?_ _) | (with_reducible refine Below.drew ?_) | (simp; done) | (simp; omega))
  have ow0_3_0_15 := Row2.below ow0_3_0_14' hp15 (by omega)
  have ot4_0_15 := Row2.below ot4_0_14' hp15 (by omega)
  have ot4_1_15 := Row2.below ot4_1_14' hp15 (by omega)
  have og0_5_0_15 := Row2.below og0_5_0_14' hp15 (by omega)
  have oh0_14_0_15 := Row2.below oh0_14_0_n hp15 (by omega)
  have kb1_0_15 := (hp15.cell (p := ⟨w.heap.size, 0, none⟩) (by show w.heap.size < _; omega)).trans kb1_0_14'
  have kb1_1_15 := (hp15.cell (p := ⟨w.heap.size, 1, none⟩) (by show w.heap.size < _; omega)).trans kb1_1_14'
  have kb1_2_15 := (hp15.cell (p := ⟨w.heap.size, 2, none⟩) (by show w.heap.size < _; omega)).trans kb1_2_14'
  have kb1_3_15 := (hp15.cell (p := ⟨w.heap.size, 3, none⟩) (by show w.heap.size < _; omega)).trans kb1_3_14'
  have kb1_4_15 := (hp15.cell (p := ⟨w.heap.size, 4, none⟩) (by show w.heap.size < _; omega)).trans kb1_4_14'
  have kb1_5_15 := (hp15.cell (p := ⟨w.heap.size, 5, none⟩) (by show w.heap.size < _; omega)).trans kb1_5_14'
  have kb1_6_15 := (hp15.cell (p := ⟨w.heap.size, 6, none⟩) (by show w.heap.size < _; omega)).trans kb1_6_14'
  have kb1_7_15 := (hp15.cell (p := ⟨w.heap.size, 7, none⟩) (by show w.heap.size < _; omega)).trans kb1_7_14'
  have kb2_0_15 := (hp15.cell (p := ⟨w4.heap.size, 0, none⟩) (by show w4.heap.size < _; omega)).trans kb2_0_14'
  have kb2_1_15 := (hp15.cell (p := ⟨w4.heap.size, 1, none⟩) (by show w4.heap.size < _; omega)).trans kb2_1_14'
  have kb2_2_15 := (hp15.cell (p := ⟨w4.heap.size, 2, none⟩) (by show w4.heap.size < _; omega)).trans kb2_2_14'
  have kb2_3_15 := (hp15.cell (p := ⟨w4.heap.size, 3, none⟩) (by show w4.heap.size < _; omega)).trans kb2_3_14'
  have kb2_4_15 := (hp15.cell (p := ⟨w4.heap.size, 4, none⟩) (by show w4.heap.size < _; omega)).trans kb2_4_14'
  have kb2_5_15 := (hp15.cell (p := ⟨w4.heap.size, 5, none⟩) (by show w4.heap.size < _; omega)).trans kb2_5_14'
  have kb2_6_15 := (hp15.cell (p := ⟨w4.heap.size, 6, none⟩) (by show w4.heap.size < _; omega)).trans kb2_6_14'
  have kb2_7_15 := (hp15.cell (p := ⟨w4.heap.size, 7, none⟩) (by show w4.heap.size < _; omega)).trans kb2_7_14'
  have hB15 := hB14'.trans (hp15.mono hB14'.size)
  have hz15 : w14.heap.size ≤ W15.heap.size := hp15.size
  have hl_b1_15 : w.heap.size < W15.heap.size := by omega
  have hl_b2_15 : w4.heap.size < W15.heap.size := by omega
  have HW15 := Lib.hid hW15; clear hW15
  clear ow0_3_0_14' ot4_0_14' ot4_1_14' og0_5_0_14' oh0_14_0_n kb1_0_14' kb1_1_14' kb1_2_14' kb1_3_14' kb1_4_14' kb1_5_14' kb1_6_14' kb1_7_14' kb2_0_14' kb2_1_14' kb2_2_14' kb2_3_14' kb2_4_14' kb2_5_14' kb2_6_14' kb2_7_14'
  refine (eqStringS_same Ar0_14 cr0_14 Ar0_3 cr0_3 ((fmtV v0)) _ oh0_14_0_15.rd ow0_3_0_15.rd).mono ?_
  rintro e w15 ⟨rfl, hb15⟩
  try simp only [Vg.val]
  have ow0_3_0_15' := Row2.below ow0_3_0_15 hb15 (by omega)
  have ot4_0_15' := Row2.below ot4_0_15 hb15 (by omega)
  have ot4_1_15' := Row2.below ot4_1_15 hb15 (by omega)
  have og0_5_0_15' := Row2.below og0_5_0_15 hb15 (by omega)
  have oh0_14_0_15' := Row2.below oh0_14_0_15 hb15 (by omega)
  have kb1_0_15' := (hb15.cell (p := ⟨w.heap.size, 0, none⟩) (by show w.heap.size < _; omega)).trans kb1_0_15
  have kb1_1_15' := (hb15.cell (p := ⟨w.heap.size, 1, none⟩) (by show w.heap.size < _; omega)).trans kb1_1_15
  have kb1_2_15' := (hb15.cell (p := ⟨w.heap.size, 2, none⟩) (by show w.heap.size < _; omega)).trans kb1_2_15
  have kb1_3_15' := (hb15.cell (p := ⟨w.heap.size, 3, none⟩) (by show w.heap.size < _; omega)).trans kb1_3_15
  have kb1_4_15' := (hb15.cell (p := ⟨w.heap.size, 4, none⟩) (by show w.heap.size < _; omega)).trans kb1_4_15
  have kb1_5_15' := (hb15.cell (p := ⟨w.heap.size, 5, none⟩) (by show w.heap.size < _; omega)).trans kb1_5_15
  have kb1_6_15' := (hb15.cell (p := ⟨w.heap.size, 6, none⟩) (by show w.heap.size < _; omega)).trans kb1_6_15
  have kb1_7_15' := (hb15.cell (p := ⟨w.heap.size, 7, none⟩) (by show w.heap.size < _; omega)).trans kb1_7_15
  have kb2_0_15' := (hb15.cell (p := ⟨w4.heap.size, 0, none⟩) (by show w4.heap.size < _; omega)).trans kb2_0_15
  have kb2_1_15' := (hb15.cell (p := ⟨w4.heap.size, 1, none⟩) (by show w4.heap.size < _; omega)).trans kb2_1_15
  have kb2_2_15' := (hb15.cell (p := ⟨w4.heap.size, 2, none⟩) (by show w4.heap.size < _; omega)).trans kb2_2_15
  have kb2_3_15' := (hb15.cell (p := ⟨w4.heap.size, 3, none⟩) (by show w4.heap.size < _; omega)).trans kb2_3_15
  have kb2_4_15' := (hb15.cell (p := ⟨w4.heap.size, 4, none⟩) (by show w4.heap.size < _; omega)).trans kb2_4_15
  have kb2_5_15' := (hb15.cell (p := ⟨w4.heap.size, 5, none⟩) (by show w4.heap.size < _; omega)).trans kb2_5_15
  have kb2_6_15' := (hb15.cell (p := ⟨w4.heap.size, 6, none⟩) (by show w4.heap.size < _; omega)).trans kb2_6_15
  have kb2_7_15' := (hb15.cell (p := ⟨w4.heap.size, 7, none⟩) (by show w4.heap.size < _; omega)).trans kb2_7_15
  have hB15' := hB15.trans (hb15.mono hB15.size)
  have hz15' : W15.heap.size ≤ w15.heap.size := hb15.size
  have hl_b1_15' : w.heap.size < w15.heap.size := by omega
  have hl_b2_15' : w4.heap.size < w15.heap.size := by omega
  clear ow0_3_0_15 ot4_0_15 ot4_1_15 og0_5_0_15 oh0_14_0_15 kb1_0_15 kb1_1_15 kb1_2_15 kb1_3_15 kb1_4_15 kb1_5_15 kb1_6_15 kb1_7_15 kb2_0_15 kb2_1_15 kb2_2_15 kb2_3_15 kb2_4_15 kb2_5_15 kb2_6_15 kb2_7_15
  go_wp2_with fail
  first | refine name_world ?_ | refine name_wp ?_
  intro W16 hW16
  have hp16 : Below w15.heap.size w15 W16 := by rw [hW16]; repeat' (first | (with_reducible exact Below.refl _ _) | (with_reducible refine Below.alloc ?_ ?_ _) | (with_reducible refine Below.setCell ?_ ?_ _) | (with_reducible refine Below.drew ?_) | (simp; done) | (simp; omega))
  have ow0_3_0_16 := Row2.below ow0_3_0_15' hp16 (by omega)
  have ot4_0_16 := Row2.below ot4_0_15' hp16 (by omega)
  have ot4_1_16 := Row2.below ot4_1_15' hp16 (by omega)
  have og0_5_0_16 := Row2.below og0_5_0_15' hp16 (by omega)
  have oh0_14_0_16 := Row2.below oh0_14_0_15' hp16 (by omega)
  have kb1_0_16 := (hp16.cell (p := ⟨w.heap.size, 0, none⟩) (by show w.heap.size < _; omega)).trans kb1_0_15'
  have kb1_1_16 := (hp16.cell (p := ⟨w.heap.size, 1, none⟩) (by show w.heap.size < _; omega)).trans kb1_1_15'
  have kb1_2_16 := (hp16.cell (p := ⟨w.heap.size, 2, none⟩) (by show w.heap.size < _; omega)).trans kb1_2_15'
  have kb1_3_16 := (hp16.cell (p := ⟨w.heap.size, 3, none⟩) (by show w.heap.size < _; omega)).trans kb1_3_15'
  have kb1_4_16 := (hp16.cell (p := ⟨w.heap.size, 4, none⟩) (by show w.heap.size < _; omega)).trans kb1_4_15'
  have kb1_5_16 := (hp16.cell (p := ⟨w.heap.size, 5, none⟩) (by show w.heap.size < _; omega)).trans kb1_5_15'
  have kb1_6_16 := (hp16.cell (p := ⟨w.heap.size, 6, none⟩) (by show w.heap.size < _; omega)).trans kb1_6_15'
  have kb1_7_16 := (hp16.cell (p := ⟨w.heap.size, 7, none⟩) (by show w.heap.size < _; omega)).trans kb1_7_15'
  have kb2_0_16 := (hp16.cell (p := ⟨w4.heap.size, 0, none⟩) (by show w4.heap.size < _; omega)).trans kb2_0_15'
  have kb2_1_16 := (hp16.cell (p := ⟨w4.heap.size, 1, none⟩) (by show w4.heap.size < _; omega)).trans kb2_1_15'
  have kb2_2_16 := (hp16.cell (p := ⟨w4.heap.size, 2, none⟩) (by show w4.heap.size < _; omega)).trans kb2_2_15'
  have kb2_3_16 := (hp16.cell (p := ⟨w4.heap.size, 3, none⟩) (by show w4.heap.size < _; omega)).trans kb2_3_15'
  have kb2_4_16 := (hp16.cell (p := ⟨w4.heap.size, 4, none⟩) (by show w4.heap.size < _; omega)).trans kb2_4_15'
  have kb2_5_16 := (hp16.cell (p := ⟨w4.heap.size, 5, none⟩) (by show w4.heap.size < _; omega)).trans kb2_5_15'
  have kb2_6_16 := (hp16.cell (p := ⟨w4.heap.size, 6, none⟩) (by show w4.heap.size < _; omega)).trans kb2_6_15'
  have kb2_7_16 := (hp16.cell (p := ⟨w4.heap.size, 7, none⟩) (by show w4.heap.size < _; omega)).trans kb2_7_15'
  have hB16 := hB15'.trans (hp16.mono hB15'.size)
  have hz16 : w15.heap.size ≤ W16.heap.size := hp16.size
  have hl_b1_16 : w.heap.size < W16.heap.size := by omega
  have hl_b2_16 : w4.heap.size < W16.heap.size := by omega
  have HW16 := Lib.hid hW16; clear hW16
  clear ow0_3_0_15' ot4_0_15' ot4_1_15' og0_5_0_15' oh0_14_0_15' kb1_0_15' kb1_1_15' kb1_2_15' kb1_3_15' kb1_4_15' kb1_5_15' kb1_6_15' kb1_7_15' kb2_0_15' kb2_1_15' kb2_2_15' kb2_3_15' kb2_4_15' kb2_5_15' kb2_6_15' kb2_7_15'
  refine (heldStringS_2 Ar0_5 cr0_5 _ _ ((fmtV v0).length) (1) _ (by omega) _ og0_5_0_16 (by first | omega | (simp; omega)) (by first | omega | (simp; omega))).mono ?_
  rintro e w16 ⟨rfl, hb16⟩
  try simp only [Vg.val]
  have ow0_3_0_16' := Row2.below ow0_3_0_16 hb16 (by omega)
  have ot4_0_16' := Row2.below ot4_0_16 hb16 (by omega)
  have ot4_1_16' := Row2.below ot4_1_16 hb16 (by omega)
  have og0_5_0_16' := Row2.below og0_5_0_16 hb16 (by omega)
  have oh0_14_0_16' := Row2.below oh0_14_0_16 hb16 (by omega)
  have kb1_0_16' := (hb16.cell (p := ⟨w.heap.size, 0, none⟩) (by show w.heap.size < _; omega)).trans kb1_0_16
  have kb1_1_16' := (hb16.cell (p := ⟨w.heap.size, 1, none⟩) (by show w.heap.size < _; omega)).trans kb1_1_16
  have kb1_2_16' := (hb16.cell (p := ⟨w.heap.size, 2, none⟩) (by show w.heap.size < _; omega)).trans kb1_2_16
  have kb1_3_16' := (hb16.cell (p := ⟨w.heap.size, 3, none⟩) (by show w.heap.size < _; omega)).trans kb1_3_16
  have kb1_4_16' := (hb16.cell (p := ⟨w.heap.size, 4, none⟩) (by show w.heap.size < _; omega)).trans kb1_4_16
  have kb1_5_16' := (hb16.cell (p := ⟨w.heap.size, 5, none⟩) (by show w.heap.size < _; omega)).trans kb1_5_16
  have kb1_6_16' := (hb16.cell (p := ⟨w.heap.size, 6, none⟩) (by show w.heap.size < _; omega)).trans kb1_6_16
  have kb1_7_16' := (hb16.cell (p := ⟨w.heap.size, 7, none⟩) (by show w.heap.size < _; omega)).trans kb1_7_16
  have kb2_0_16' := (hb16.cell (p := ⟨w4.heap.size, 0, none⟩) (by show w4.heap.size < _; omega)).trans kb2_0_16
  have kb2_1_16' := (hb16.cell (p := ⟨w4.heap.size, 1, none⟩) (by show w4.heap.size < _; omega)).trans kb2_1_16
  have kb2_2_16' := (hb16.cell (p := ⟨w4.heap.size, 2, none⟩) (by show w4.heap.size < _; omega)).trans kb2_2_16
  have kb2_3_16' := (hb16.cell (p := ⟨w4.heap.size, 3, none⟩) (by show w4.heap.size < _; omega)).trans kb2_3_16
  have kb2_4_16' := (hb16.cell (p := ⟨w4.heap.size, 4, none⟩) (by show w4.heap.size < _; omega)).trans kb2_4_16
  have kb2_5_16' := (hb16.cell (p := ⟨w4.heap.size, 5, none⟩) (by show w4.heap.size < _; omega)).trans kb2_5_16
  have kb2_6_16' := (hb16.cell (p := ⟨w4.heap.size, 6, none⟩) (by show w4.heap.size < _; omega)).trans kb2_6_16
  have kb2_7_16' := (hb16.cell (p := ⟨w4.heap.size, 7, none⟩) (by show w4.heap.size < _; omega)).trans kb2_7_16
  have hB16' := hB16.trans (hb16.mono hB16.size)
  have hz16' : W16.heap.size ≤ w16.heap.size := hb16.size
  have hl_b1_16' : w.heap.size < w16.heap.size := by omega
  have hl_b2_16' : w4.heap.size < w16.heap.size := by omega
  clear ow0_3_0_16 ot4_0_16 ot4_1_16 og0_5_0_16 oh0_14_0_16 kb1_0_16 kb1_1_16 kb1_2_16 kb1_3_16 kb1_4_16 kb1_5_16 kb1_6_16 kb1_7_16 kb2_0_16 kb2_1_16 kb2_2_16 kb2_3_16 kb2_4_16 kb2_5_16 kb2_6_16 kb2_7_16
  go_wp2_with fail
  go_ret
  exact ⟨rfl, by first | exact hB16' | (refine hB16'.trans (Below.mono (B := w16.heap.size) ?_ hB16'.size); repeat' (first | (with_reducible exact Below.refl _ _) | (with_reducible refine Below.alloc ?_ ?_ _) | (with_reducible refine Below.setCell ?_ ?_ _) | (with_reducible refine Below.drew ?_) | (simp; done) | (simp; omega)))⟩
theorem tab_of_FnExactFormatVillage {W : World} (h : laidMetH Tryd.prog [("math/bits.deBruijn32tab", Rows.laid_math_bits_deBruijn32tab), ("math/bits.deBruijn64tab", Rows.laid_math_bits_deBruijn64tab), ("internal/strconv.uint64pow10", Rows.laid_internal_strconv_uint64pow10)] W) : Tab W := by
  rw [MakeChecks.laidMetH_plain _ _ _ (by kernel_rfl)] at h
  exact Lib.tabIs_of_head (g := 1) (t := 179) (e := 168) (n := 20) (by kernel_rfl) (by kernel_rfl) Tryd.underlying179 Tryd.underlying168 (by kernel_rfl) (by kernel_rfl) ((h).tail).tail
theorem door_met_FnExactFormatVillage (os : Os) (args : Array Value) : laidMetH Tryd.prog [("math/bits.deBruijn32tab", Rows.laid_math_bits_deBruijn32tab), ("math/bits.deBruijn64tab", Rows.laid_math_bits_deBruijn64tab), ("internal/strconv.uint64pow10", Rows.laid_internal_strconv_uint64pow10)] ((World.doorLaid Tryd.prog 24 os).forCall (fun _ _ => 0) ⟨#[], args, []⟩).memory :=
  laidMetH_of_parts3 (fuel := 8) (laidMet_of_run' 8 (by kernel_rfl) (by kernel_rfl)) (by kernel_rfl) (by kernel_rfl)
set_option maxRecDepth 100000 in
theorem lifted_FnExactFormatVillage (os : Os) (started : os.Started) (H : Type) (enc : TypeId × Value → H) :
    ReturnsInHanded {} Tryd.checked os 4 .any (fun w args => (Rows.fnExactFormatVillageSpec.pre enc Tryd.prog Tryd.f4 [] false w args ∧ laidMetH Tryd.prog [("math/bits.deBruijn32tab", Rows.laid_math_bits_deBruijn32tab), ("math/bits.deBruijn64tab", Rows.laid_math_bits_deBruijn64tab), ("internal/strconv.uint64pow10", Rows.laid_internal_strconv_uint64pow10)] w) ∧ sizedMet enc Tryd.prog Tryd.f4 (OpenSpec.ofChange Rows.fnExactFormatVillageSpec) false w args) (Rows.fnExactFormatVillageSpec.post enc Tryd.prog Tryd.f4 false true false false) := by
  refine returnsInHanded_of_change_and (C := Tryd.checked) (X := fun w _ => laidMetH Tryd.prog [("math/bits.deBruijn32tab", Rows.laid_math_bits_deBruijn32tab), ("math/bits.deBruijn64tab", Rows.laid_math_bits_deBruijn64tab), ("internal/strconv.uint64pow10", Rows.laid_internal_strconv_uint64pow10)] w) (fun _ _ _ hh h => h.of_heap hh) own_knob started (by kernel_rfl) Tryd.func4
    (ChangeSpec.witness_shaped (enc := enc) (C := Tryd.checked) (os := os) (X := fun w _ => laidMetH Tryd.prog [("math/bits.deBruijn32tab", Rows.laid_math_bits_deBruijn32tab), ("math/bits.deBruijn64tab", Rows.laid_math_bits_deBruijn64tab), ("internal/strconv.uint64pow10", Rows.laid_internal_strconv_uint64pow10)] w) false (World.doorLaid Tryd.prog 24 os) #[.agg #[.int .i64 0, .int .i64 0, .slice none 0 0, .int .i64 0, .int .i64 0, .int .i64 0, .int .i64 0, .slice none 0 0]] 8 rfl (World.shaped_of_RefB (by kernel_rfl) (by kernel_rfl)) (by kernel_rfl) (by kernel_rfl) (by kernel_rfl) (door_met_FnExactFormatVillage os _)) ?_
  intro W base args ds gs before hval0 hW _ _ hL _
  have ht := tab_of_FnExactFormatVillage hL
  have hval : ∀ (j : Nat) t v, Tryd.f4.params[j]? = some t → args[j]? = some v → Value.okWide Tryd.prog W .any base t v := hval0
  have hW' := hW
  obtain ⟨p, q, hA0, hV, rfl, hfz, hnd⟩ := hW
  have hA : DataW.TrodAll enc Tryd.prog W 0 (fun _ => true) true Tryd.f4.params.toList args.toList ds p := hA0
  rw [Tryd.params4] at hA hval
  obtain ⟨v0, vs0, d0, ds0, p0, q0, hargs, rfl, rfl, h0, r0⟩ := trodAll_cons hA
  obtain ⟨rfl, rfl, rfl⟩ := trodAll_nil r0
  obtain rfl : args = #[v0] := by cases args; simp_all
  obtain ⟨rfl, rfl⟩ := trodVars_none hV
  obtain ⟨A0, c0, B0, e0, x0, rfl, hr0, hq0⟩ := arg_village (hval 0 33 v0 rfl rfl) h0
  have lt0 : ∀ x ∈ p0, x.block < W.heap.size := by obtain ⟨m, hm⟩ := h0; exact DataW.trod_lt m _ _ _ hm
  clear hA0 hval0
  refine (walk_FnExactFormatVillage W ht A0 c0 B0 e0 x0 hr0 hq0).mono fun e W' ⟨he, bel⟩ => ?_
  subst he
  exact ⟨_, rfl, _, _, _, [], _, [], hW', trodAll_mk1 (shut_bool Tryd.underlying4 _), (trodAll_cons_mk (Below.trod laid_out (by kernel_rfl) (of_decide_eq_true (by kernel_rfl)) h0 bel lt0) trodAll_mk0), rfl, bel.frame _, fun h => by cases h⟩

theorem fnExactFormatVillage_row : Rows.FnExactFormatVillageSaid :=
  OpenClaim.holds_of_wide 4 Tryd.f4 rfl rfl rfl rfl rfl rfl rfl ⟨rfl, rfl, rfl, rfl, rfl⟩ rfl rfl rfl rfl rfl (by kernel_rfl) Tryd.func4 (by kernel_rfl)
    (of_decide_eq_true (by kernel_rfl)) (by unfold Func.isWrapper; rw [if_neg (by decide +kernel)]; exact ⟨rfl, rfl⟩)
    (fun os started H enc _ => lifted_FnExactFormatVillage os started H enc)

theorem fnExactFormatVillage_holds : Rows.FnExactFormatVillageCardSaid :=
  Claim7.holds_tied_plain_at .later [] [.data, .data, .data] true (true, "7c06b1ddc5e43b9f6c05c53f40366846dfacbb00ce90e39f41c524b3867fa9c8") false
    fnExactFormatVillage_row (fun _ h => by cases h) (by kernel_rfl) (fun _ h => by cases h) fnExactFormatVillage_row_tie rfl ⟨rfl, rfl⟩ (by kernel_rfl) rfl
    (fun f fn hf hfn => by
      obtain rfl : f = 4 := Option.some.inj ((show Tryd.prog.funcNamed "loop.example/g03307/laws.FnExactFormatVillage" = some 4 by kernel_rfl).symm.trans hf) |>.symm
      obtain rfl : fn = Tryd.f4 := (Option.some.inj (Tryd.func4.symm.trans hfn)).symm
      exact ⟨by kernel_rfl, fun j t ht => by
        rw [Tryd.params4] at ht
        have hm : t ∈ [33] := by simpa using Array.mem_of_getElem? ht
        have hall : ([33].all fun u => !Tryd.prog.wantsStandIn u) = true := by kernel_rfl
        exact (show Tryd.prog.wantsStandIn t = false by simpa using List.all_eq_true.1 hall t hm)⟩)
    (by kernel_rfl)
end Go.Proofs.YtbkgofjajhplpaaDoor
