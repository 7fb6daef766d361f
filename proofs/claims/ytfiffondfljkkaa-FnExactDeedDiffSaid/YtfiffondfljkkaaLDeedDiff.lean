/- The law FnExactDeedDiff answers true for all pairs of rights. No conditions. -/
import Derived.Test.YtfiffondfljkkaaDeedDiff
import Derived.Test.YtfiffondfljkkaaTo
import Derived.Test.YtfiffondfljkkaaTo3R
import Derived.Test.YtfiffondfljkkaaOpenRights
namespace Go.Proofs.Ytfiffondfljkkaa
open Go.ChangeShapes Go.WideShapes Go.ChangeAt Go.RowKit
set_option maxRecDepth 20000
set_option maxHeartbeats 1600000 in
theorem walk_FnExactDeedDiff (w : World) (A0 : Option Addr) (c0 : Nat) (l0 : List T3) (h0_0 : RdT w w.heap.size A0 c0 l0) (A1 : Option Addr) (c1 : Nat) (l1 : List T3) (h1_0 : RdT w w.heap.size A1 c1 l1) :
    Calls Try.prog 7 #[.slice A0 l0.length c0, .slice A1 l1.length c1] w fun e w' => e = .returned (.bool true) ∧ Below w.heap.size w w' := by
  by_cases hbig0 : (1048576 : Int) < l0.length
  · go_enter Try.func7, Try.ntmps7
    go_wp2_with fail
    refine (szRightS_big A0 c0 l0 _ _ (by omega) (by omega) (by have := h0_0.le; omega)).mono ?_
    rintro e w0' ⟨rfl, hb0'⟩
    go_wp2_with fail
    go_ret
    exact ⟨rfl, by repeat' (first | (with_reducible exact Below.refl _ _) | (with_reducible assumption) | (with_reducible refine Below.alloc ?_ ?_ _) | (with_reducible refine Below.setCell ?_ ?_ _) | (with_reducible refine Below.drew ?_) | (with_reducible refine below_drewN ?_ _) | (refine Below.trans ?_ (Below.mono (by with_reducible assumption) ?_)) | omega | (simp; done) | (simp; omega))⟩
  have hs0 : l0.length ≤ 1048576 := by omega
  by_cases hbig1 : (1048576 - l0.length : Int) < l1.length
  · go_enter Try.func7, Try.ntmps7
    go_wp2_with fail
    refine (szRightS_ok A0 c0 l0 _ _ (by omega) (by omega)).mono ?_
    rintro e w0' ⟨rfl, hb0'⟩
    have hsz0' := hb0'.size
    go_wp2_with fail
    refine (szRightS_big A1 c1 l1 _ _ (by omega) (by omega) (by have := h1_0.le; omega)).mono ?_
    rintro e w1' ⟨rfl, hb1'⟩
    go_wp2_with fail
    go_ret
    exact ⟨rfl, by repeat' (first | (with_reducible exact Below.refl _ _) | (with_reducible assumption) | (with_reducible refine Below.alloc ?_ ?_ _) | (with_reducible refine Below.setCell ?_ ?_ _) | (with_reducible refine Below.drew ?_) | (with_reducible refine below_drewN ?_ _) | (refine Below.trans ?_ (Below.mono (by with_reducible assumption) ?_)) | omega | (simp; done) | (simp; omega))⟩
  have hs1 : l1.length ≤ 1048576 := by omega
  have hsl := deedDiff_len l0 l1
  have hB0 : Below w.heap.size w w := Below.refl _ _
  go_enter Try.func7, Try.ntmps7
  go_wp2_with fail
  refine (szRightS_ok A0 c0 l0 _ _ (by omega) (by omega)).mono ?_
  rintro e w1 ⟨rfl, hb1⟩
  have hB1' := hB0.trans (hb1.mono hB0.size)
  have hz1' : w.heap.size ≤ w1.heap.size := hb1.size
  go_wp2_with fail
  refine (szRightS_ok A1 c1 l1 _ _ (by omega) (by omega)).mono ?_
  rintro e w2 ⟨rfl, hb2⟩
  have hB2' := hB1'.trans (hb2.mono hB1'.size)
  have hz2' : w1.heap.size ≤ w2.heap.size := hb2.size
  go_wp2_with fail
  refine (toRightS_any A0 c0 l0 _ (Rd.later h0_0 hB2') hs0).mono ?_
  rintro e w3 ⟨A'3, c'3, rfl, ho0_3, hb3⟩
  have hB3' := hB2'.trans (hb3.mono hB2'.size)
  have hz3' : w2.heap.size ≤ w3.heap.size := hb3.size
  have ot3_0_n := Row2.born ho0_3
  clear ho0_3
  go_wp2_with fail
  refine (toRightS_any A1 c1 l1 _ (Rd.later h1_0 hB3') hs1).mono ?_
  rintro e w4 ⟨A'4, c'4, rfl, ho0_4, hb4⟩
  have ot3_0_4' := Row2.below ot3_0_n hb4 (by omega)
  clear ot3_0_n
  have hB4' := hB3'.trans (hb4.mono hB3'.size)
  have hz4' : w3.heap.size ≤ w4.heap.size := hb4.size
  have ot4_0_n := Row2.born ho0_4
  clear ho0_4
  go_wp2_with fail
  refine (DeedDiffS_any A'3 c'3 l0 A'4 c'4 l1 _ ot3_0_4'.rd ot4_0_n.rd).mono ?_
  rintro e w5 ⟨Ar0_5, cr0_5, rfl, ho0_5, hb5⟩
  have ot3_0_5' := Row2.below ot3_0_4' hb5 (by omega)
  clear ot3_0_4'
  have ot4_0_5' := Row2.below ot4_0_n hb5 (by omega)
  clear ot4_0_n
  have hB5' := hB4'.trans (hb5.mono hB4'.size)
  have hz5' : w4.heap.size ≤ w5.heap.size := hb5.size
  have ow0_5_0_n := Row2.born ho0_5
  clear ho0_5
  go_wp2_with fail
  refine (toRightS_any A0 c0 l0 _ (Rd.later h0_0 hB5') hs0).mono ?_
  rintro e w6 ⟨A'6, c'6, rfl, ho0_6, hb6⟩
  have ow0_5_0_6' := Row2.below ow0_5_0_n hb6 (by omega)
  clear ow0_5_0_n
  have hB6' := hB5'.trans (hb6.mono hB5'.size)
  have hz6' : w5.heap.size ≤ w6.heap.size := hb6.size
  have ot6_0_n := Row2.born ho0_6
  clear ho0_6
  go_wp2_with fail
  refine (toRightS_any A1 c1 l1 _ (Rd.later h1_0 hB6') hs1).mono ?_
  rintro e w7 ⟨A'7, c'7, rfl, ho0_7, hb7⟩
  have ow0_5_0_7' := Row2.below ow0_5_0_6' hb7 (by omega)
  clear ow0_5_0_6'
  have ot6_0_7' := Row2.below ot6_0_n hb7 (by omega)
  clear ot6_0_n
  have hB7' := hB6'.trans (hb7.mono hB6'.size)
  have hz7' : w6.heap.size ≤ w7.heap.size := hb7.size
  have ot7_0_n := Row2.born ho0_7
  clear ho0_7
  go_wp2_with fail
  refine (DeedDiff_any A'6 c'6 l0 A'7 c'7 l1 _ ot6_0_7'.rd ot7_0_n.rd).mono ?_
  rintro e w8 ⟨Ar0_8, cr0_8, rfl, ho0_8, hb8⟩
  have ow0_5_0_8' := Row2.below ow0_5_0_7' hb8 (by omega)
  clear ow0_5_0_7'
  have ot6_0_8' := Row2.below ot6_0_7' hb8 (by omega)
  clear ot6_0_7'
  have ot7_0_8' := Row2.below ot7_0_n hb8 (by omega)
  clear ot7_0_n
  have hB8' := hB7'.trans (hb8.mono hB7'.size)
  have hz8' : w7.heap.size ≤ w8.heap.size := hb8.size
  have og0_8_0_n := Row2.born ho0_8
  clear ho0_8
  go_wp2_with fail
  refine (eqIntS_same Ar0_8 cr0_8 Ar0_5 cr0_5 ((deedDiff l0 l1)) _ og0_8_0_n.rd ow0_5_0_8'.rd).mono ?_
  rintro e w9 ⟨rfl, hb9⟩
  have ow0_5_0_9' := Row2.below ow0_5_0_8' hb9 (by omega)
  clear ow0_5_0_8'
  have ot6_0_9' := Row2.below ot6_0_8' hb9 (by omega)
  clear ot6_0_8'
  have ot7_0_9' := Row2.below ot7_0_8' hb9 (by omega)
  clear ot7_0_8'
  have og0_8_0_9' := Row2.below og0_8_0_n hb9 (by omega)
  clear og0_8_0_n
  have hB9' := hB8'.trans (hb9.mono hB8'.size)
  have hz9' : w8.heap.size ≤ w9.heap.size := hb9.size
  go_wp2_with fail
  refine (toRightS_any A0 c0 l0 _ (Rd.later h0_0 hB9') hs0).mono ?_
  rintro e w10 ⟨A'10, c'10, rfl, ho0_10, hb10⟩
  have ow0_5_0_10' := Row2.below ow0_5_0_9' hb10 (by omega)
  clear ow0_5_0_9'
  have ot6_0_10' := Row2.below ot6_0_9' hb10 (by omega)
  clear ot6_0_9'
  have ot7_0_10' := Row2.below ot7_0_9' hb10 (by omega)
  clear ot7_0_9'
  have og0_8_0_10' := Row2.below og0_8_0_9' hb10 (by omega)
  clear og0_8_0_9'
  have hB10' := hB9'.trans (hb10.mono hB9'.size)
  have hz10' : w9.heap.size ≤ w10.heap.size := hb10.size
  have ot10_0_n := Row2.born ho0_10
  clear ho0_10
  go_wp2_with fail
  refine (eqRightS_same A'6 c'6 A'10 c'10 (l0) _ ot6_0_10'.rd ot10_0_n.rd).mono ?_
  rintro e w11 ⟨rfl, hb11⟩
  have ow0_5_0_11' := Row2.below ow0_5_0_10' hb11 (by omega)
  clear ow0_5_0_10'
  have ot6_0_11' := Row2.below ot6_0_10' hb11 (by omega)
  clear ot6_0_10'
  have ot7_0_11' := Row2.below ot7_0_10' hb11 (by omega)
  clear ot7_0_10'
  have og0_8_0_11' := Row2.below og0_8_0_10' hb11 (by omega)
  clear og0_8_0_10'
  have ot10_0_11' := Row2.below ot10_0_n hb11 (by omega)
  clear ot10_0_n
  have hB11' := hB10'.trans (hb11.mono hB10'.size)
  have hz11' : w10.heap.size ≤ w11.heap.size := hb11.size
  go_wp2_with fail
  refine (toRightS_any A1 c1 l1 _ (Rd.later h1_0 hB11') hs1).mono ?_
  rintro e w12 ⟨A'12, c'12, rfl, ho0_12, hb12⟩
  have ow0_5_0_12' := Row2.below ow0_5_0_11' hb12 (by omega)
  clear ow0_5_0_11'
  have ot6_0_12' := Row2.below ot6_0_11' hb12 (by omega)
  clear ot6_0_11'
  have ot7_0_12' := Row2.below ot7_0_11' hb12 (by omega)
  clear ot7_0_11'
  have og0_8_0_12' := Row2.below og0_8_0_11' hb12 (by omega)
  clear og0_8_0_11'
  have hB12' := hB11'.trans (hb12.mono hB11'.size)
  have hz12' : w11.heap.size ≤ w12.heap.size := hb12.size
  have ot12_0_n := Row2.born ho0_12
  clear ho0_12
  go_wp2_with fail
  refine (eqRightS_same A'7 c'7 A'12 c'12 (l1) _ ot7_0_12'.rd ot12_0_n.rd).mono ?_
  rintro e w13 ⟨rfl, hb13⟩
  have ow0_5_0_13' := Row2.below ow0_5_0_12' hb13 (by omega)
  clear ow0_5_0_12'
  have ot6_0_13' := Row2.below ot6_0_12' hb13 (by omega)
  clear ot6_0_12'
  have ot7_0_13' := Row2.below ot7_0_12' hb13 (by omega)
  clear ot7_0_12'
  have og0_8_0_13' := Row2.below og0_8_0_12' hb13 (by omega)
  clear og0_8_0_12'
  have ot12_0_13' := Row2.below ot12_0_n hb13 (by omega)
  clear ot12_0_n
  have hB13' := hB12'.trans (hb13.mono hB12'.size)
  have hz13' : w12.heap.size ≤ w13.heap.size := hb13.size
  go_wp2_with fail
  refine (markRightS_2 A'6 c'6 _ _ (l0) (1) _ (by omega) _ ot6_0_13' (by first | omega | (simp; omega)) (by first | omega | (simp; omega))).mono ?_
  rintro e w14 ⟨rfl, hm0_14, hc14⟩
  have ow0_5_0_14' := Row2.chg ow0_5_0_13' hc14 (by omega)
  clear ow0_5_0_13'
  clear ot6_0_13'
  have ot7_0_14' := Row2.chg ot7_0_13' hc14 (by omega)
  clear ot7_0_13'
  have og0_8_0_14' := Row2.chg og0_8_0_13' hc14 (by omega)
  clear og0_8_0_13'
  have hB14' := Chg.below hB13' hc14 (by omega) hB13'.size
  have hz14' : w13.heap.size ≤ w14.heap.size := hc14.size
  go_wp2_with fail
  refine (markRightS_2 A'7 c'7 _ _ (l1) (1 + (3 * (l0.length))) _ (by omega) _ ot7_0_14' (by first | omega | (simp; omega)) (by first | omega | (simp; omega))).mono ?_
  rintro e w15 ⟨rfl, hm0_15, hc15⟩
  have ow0_5_0_15' := Row2.chg ow0_5_0_14' hc15 (by omega)
  clear ow0_5_0_14'
  have ot6_0_15' := Row2.chg hm0_14 hc15 (by omega)
  clear hm0_14
  clear ot7_0_14'
  have og0_8_0_15' := Row2.chg og0_8_0_14' hc15 (by omega)
  clear og0_8_0_14'
  have hB15' := Chg.below hB14' hc15 (by omega) hB14'.size
  have hz15' : w14.heap.size ≤ w15.heap.size := hc15.size
  go_wp2_with fail
  refine (eqIntS_same Ar0_8 cr0_8 Ar0_5 cr0_5 ((deedDiff l0 l1)) _ og0_8_0_15'.rd ow0_5_0_15'.rd).mono ?_
  rintro e w16 ⟨rfl, hb16⟩
  have ow0_5_0_16' := Row2.below ow0_5_0_15' hb16 (by omega)
  clear ow0_5_0_15'
  have ot6_0_16' := Row2.below ot6_0_15' hb16 (by omega)
  clear ot6_0_15'
  have ot7_0_16' := Row2.below hm0_15 hb16 (by omega)
  clear hm0_15
  have og0_8_0_16' := Row2.below og0_8_0_15' hb16 (by omega)
  clear og0_8_0_15'
  have hB16' := hB15'.trans (hb16.mono hB15'.size)
  have hz16' : w15.heap.size ≤ w16.heap.size := hb16.size
  go_wp2_with fail
  refine (markIntS_2 Ar0_8 cr0_8 _ _ ((deedDiff l0 l1)) (1) _ (by omega) _ og0_8_0_16' (by first | omega | (simp; omega))).mono ?_
  rintro e w17 ⟨rfl, hm0_17, hc17⟩
  have ow0_5_0_17' := Row2.chg ow0_5_0_16' hc17 (by omega)
  clear ow0_5_0_16'
  have ot6_0_17' := Row2.chg ot6_0_16' hc17 (by omega)
  clear ot6_0_16'
  have ot7_0_17' := Row2.chg ot7_0_16' hc17 (by omega)
  clear ot7_0_16'
  clear og0_8_0_16'
  have hB17' := Chg.below hB16' hc17 (by omega) hB16'.size
  have hz17' : w16.heap.size ≤ w17.heap.size := hc17.size
  go_wp2_with fail
  refine (heldIntS_2 Ar0_8 cr0_8 _ _ ((deedDiff l0 l1).length) (1) _ (by omega) _ hm0_17 (by first | omega | (simp; omega))).mono ?_
  rintro e w18 ⟨rfl, hb18⟩
  have ow0_5_0_18' := Row2.below ow0_5_0_17' hb18 (by omega)
  clear ow0_5_0_17'
  have ot6_0_18' := Row2.below ot6_0_17' hb18 (by omega)
  clear ot6_0_17'
  have ot7_0_18' := Row2.below ot7_0_17' hb18 (by omega)
  clear ot7_0_17'
  have og0_8_0_18' := Row2.below hm0_17 hb18 (by omega)
  clear hm0_17
  have hB18' := hB17'.trans (hb18.mono hB17'.size)
  have hz18' : w17.heap.size ≤ w18.heap.size := hb18.size
  go_wp2_with fail
  refine (toRightS_any A0 c0 l0 _ (Rd.later h0_0 hB18') hs0).mono ?_
  rintro e w19 ⟨A'19, c'19, rfl, ho0_19, hb19⟩
  have ow0_5_0_19' := Row2.below ow0_5_0_18' hb19 (by omega)
  clear ow0_5_0_18'
  have ot6_0_19' := Row2.below ot6_0_18' hb19 (by omega)
  clear ot6_0_18'
  have ot7_0_19' := Row2.below ot7_0_18' hb19 (by omega)
  clear ot7_0_18'
  have og0_8_0_19' := Row2.below og0_8_0_18' hb19 (by omega)
  clear og0_8_0_18'
  have hB19' := hB18'.trans (hb19.mono hB18'.size)
  have hz19' : w18.heap.size ≤ w19.heap.size := hb19.size
  have ot19_0_n := Row2.born ho0_19
  clear ho0_19
  go_wp2_with fail
  refine (toRightS_any A1 c1 l1 _ (Rd.later h1_0 hB19') hs1).mono ?_
  rintro e w20 ⟨A'20, c'20, rfl, ho0_20, hb20⟩
  have ow0_5_0_20' := Row2.below ow0_5_0_19' hb20 (by omega)
  clear ow0_5_0_19'
  have ot6_0_20' := Row2.below ot6_0_19' hb20 (by omega)
  clear ot6_0_19'
  have ot7_0_20' := Row2.below ot7_0_19' hb20 (by omega)
  clear ot7_0_19'
  have og0_8_0_20' := Row2.below og0_8_0_19' hb20 (by omega)
  clear og0_8_0_19'
  have ot19_0_20' := Row2.below ot19_0_n hb20 (by omega)
  clear ot19_0_n
  have hB20' := hB19'.trans (hb20.mono hB19'.size)
  have hz20' : w19.heap.size ≤ w20.heap.size := hb20.size
  have ot20_0_n := Row2.born ho0_20
  clear ho0_20
  go_wp2_with fail
  refine (DeedDiff_any A'19 c'19 l0 A'20 c'20 l1 _ ot19_0_20'.rd ot20_0_n.rd).mono ?_
  rintro e w21 ⟨Ar0_21, cr0_21, rfl, ho0_21, hb21⟩
  have ow0_5_0_21' := Row2.below ow0_5_0_20' hb21 (by omega)
  clear ow0_5_0_20'
  have ot6_0_21' := Row2.below ot6_0_20' hb21 (by omega)
  clear ot6_0_20'
  have ot7_0_21' := Row2.below ot7_0_20' hb21 (by omega)
  clear ot7_0_20'
  have og0_8_0_21' := Row2.below og0_8_0_20' hb21 (by omega)
  clear og0_8_0_20'
  have ot19_0_21' := Row2.below ot19_0_20' hb21 (by omega)
  clear ot19_0_20'
  have ot20_0_21' := Row2.below ot20_0_n hb21 (by omega)
  clear ot20_0_n
  have hB21' := hB20'.trans (hb21.mono hB20'.size)
  have hz21' : w20.heap.size ≤ w21.heap.size := hb21.size
  have oh0_21_0_n := Row2.born ho0_21
  clear ho0_21
  go_wp2_with fail
  refine (eqIntS_same Ar0_21 cr0_21 Ar0_5 cr0_5 ((deedDiff l0 l1)) _ oh0_21_0_n.rd ow0_5_0_21'.rd).mono ?_
  rintro e w22 ⟨rfl, hb22⟩
  have ow0_5_0_22' := Row2.below ow0_5_0_21' hb22 (by omega)
  clear ow0_5_0_21'
  have ot6_0_22' := Row2.below ot6_0_21' hb22 (by omega)
  clear ot6_0_21'
  have ot7_0_22' := Row2.below ot7_0_21' hb22 (by omega)
  clear ot7_0_21'
  have og0_8_0_22' := Row2.below og0_8_0_21' hb22 (by omega)
  clear og0_8_0_21'
  have oh0_21_0_22' := Row2.below oh0_21_0_n hb22 (by omega)
  clear oh0_21_0_n
  have hB22' := hB21'.trans (hb22.mono hB21'.size)
  have hz22' : w21.heap.size ≤ w22.heap.size := hb22.size
  go_wp2_with fail
  refine (heldIntS_2 Ar0_8 cr0_8 _ _ ((deedDiff l0 l1).length) (1) _ (by omega) _ og0_8_0_22' (by first | omega | (simp; omega))).mono ?_
  rintro e w23 ⟨rfl, hb23⟩
  have ow0_5_0_23' := Row2.below ow0_5_0_22' hb23 (by omega)
  clear ow0_5_0_22'
  have ot6_0_23' := Row2.below ot6_0_22' hb23 (by omega)
  clear ot6_0_22'
  have ot7_0_23' := Row2.below ot7_0_22' hb23 (by omega)
  clear ot7_0_22'
  have og0_8_0_23' := Row2.below og0_8_0_22' hb23 (by omega)
  clear og0_8_0_22'
  have oh0_21_0_23' := Row2.below oh0_21_0_22' hb23 (by omega)
  clear oh0_21_0_22'
  have hB23' := hB22'.trans (hb23.mono hB22'.size)
  have hz23' : w22.heap.size ≤ w23.heap.size := hb23.size
  go_wp2_with fail
  go_ret
  exact ⟨rfl, hB23'⟩
set_option maxRecDepth 100000 in
theorem lifted_FnExactDeedDiff (os : Os) (started : os.Started) (H : Type) (enc : TypeId × Value → H) :
    ReturnsInHanded {} Try.checked os 7 .any (Rows.fnExactDeedDiffSpec.pre6 enc Try.prog Try.f7 Rows.fnExactDeedDiffRow.domain false) (Rows.fnExactDeedDiffSpec.post enc Try.prog Try.f7 false true false false) := by
  refine returnsInHanded_of_change (C := Try.checked) own_knob started (by kernel_rfl) Try.func7
    (ChangeSpec.witness6 (enc := enc) (C := Try.checked) false ⟨#[], #[.slice none 0 0, .slice none 0 0], []⟩ 8 (by kernel_rfl) (by kernel_rfl) (by kernel_rfl) (by kernel_rfl)) ?_
  intro W base args ds gs before hval0 hW hcnd _
  have hval : ∀ (j : Nat) t v, Try.f7.params[j]? = some t → args[j]? = some v → Value.okWide Try.prog W .any base t v := hval0
  have hW' := hW
  obtain ⟨p, q, hA0, hV, rfl, hfz, hnd⟩ := hW
  have hA : DataW.TrodAll enc Try.prog W 0 (fun _ => true) true Try.f7.params.toList args.toList ds p := hA0
  rw [Try.params7] at hA hval
  obtain ⟨v0, vs0, d0, ds0, p0, q0, hargs, rfl, rfl, h0, r0⟩ := trodAll_cons hA
  obtain ⟨v1, vs1, d1, ds1, p1, q1, rfl, rfl, rfl, h1, r1⟩ := trodAll_cons r0
  obtain ⟨rfl, rfl, rfl⟩ := trodAll_nil r1
  obtain rfl : args = #[v0, v1] := by cases args; simp_all
  obtain ⟨rfl, rfl⟩ := trodVars_none hV
  obtain ⟨A0, c0, l0, rfl, hr0⟩ := arg_rights (hval 0 22 v0 rfl rfl) h0
  have lt0 : ∀ x ∈ p0, x.block < W.heap.size := by obtain ⟨m, hm⟩ := h0; exact DataW.trod_lt m _ _ _ hm
  obtain ⟨A1, c1, l1, rfl, hr1⟩ := arg_rights (hval 1 22 v1 rfl rfl) h1
  have lt1 : ∀ x ∈ p1, x.block < W.heap.size := by obtain ⟨m, hm⟩ := h1; exact DataW.trod_lt m _ _ _ hm
  clear hA0 hval0
  refine (walk_FnExactDeedDiff W A0 c0 l0 hr0 A1 c1 l1 hr1).mono fun e W' ⟨he, bel⟩ => ?_
  subst he
  exact ⟨_, rfl, _, _, _, [], _, [], hW', trodAll_mk1 (shut_bool Try.underlying4 _), (trodAll_cons_mk (Below.trod laid_out (by kernel_rfl) (of_decide_eq_true (by kernel_rfl)) h0 bel lt0) (trodAll_cons_mk (Below.trod laid_out (by kernel_rfl) (of_decide_eq_true (by kernel_rfl)) h1 bel lt1) trodAll_mk0)), rfl, bel.frame _, fun h => by cases h⟩

theorem fnExactDeedDiff_holds : Rows.FnExactDeedDiffSaid :=
  OpenClaim.holds_of_wide 7 Try.f7 rfl rfl rfl rfl rfl rfl rfl ⟨rfl, rfl, rfl, rfl, rfl⟩ rfl rfl rfl rfl rfl (by kernel_rfl) Try.func7 (by kernel_rfl)
    (of_decide_eq_true (by kernel_rfl)) (by unfold Func.isWrapper; rw [if_neg (by decide +kernel)]; exact ⟨rfl, rfl⟩)
    (fun os started H enc _ => lifted_FnExactDeedDiff os started H enc)
end Go.Proofs.Ytfiffondfljkkaa
