/- The law FnExactSharedReserve answers true for all stores and needs. No conditions. -/
import Derived.Test.YtnedbdpcimhfgabShare
import Derived.Test.YtnedbdpcimhfgabTo
import Derived.Test.YtnedbdpcimhfgabTo3S
import Derived.Test.YtnedbdpcimhfgabOpenRights
namespace Go.Proofs.Ytnedbdpcimhfgab
open Go.ChangeShapes Go.WideShapes Go.ChangeAt Go.RowKit
set_option maxRecDepth 20000
set_option maxHeartbeats 1600000 in
theorem walk_FnExactSharedReserve (w : World) (A0 : Option Addr) (c0 : Nat) (l0 : List T3) (h0_0 : RdT w w.heap.size A0 c0 l0) (a1 : Int) (h1_0 : I64 a1) :
    Calls Try.prog 3 #[.slice A0 l0.length c0, .int .i64 a1] w fun e w' => e = .returned (.bool true) ∧ Below w.heap.size w w' := by
  by_cases hbig0 : (1048576 : Int) < l0.length
  · go_enter Try.func3, Try.ntmps3
    go_wp2_with fail
    refine (szStoreS_big A0 c0 l0 _ _ (by omega) (by omega) (by have := h0_0.le; omega)).mono ?_
    rintro e w0' ⟨rfl, hb0'⟩
    go_wp2_with fail
    go_ret
    exact ⟨rfl, by repeat' (first | (with_reducible exact Below.refl _ _) | (with_reducible assumption) | (with_reducible refine Below.alloc ?_ ?_ _) | (with_reducible refine Below.setCell ?_ ?_ _) | (with_reducible refine Below.drew ?_) | (with_reducible refine below_drewN ?_ _) | (refine Below.trans ?_ (Below.mono (by with_reducible assumption) ?_)) | omega | (simp; done) | (simp; omega))⟩
  have hs0 : l0.length ≤ 1048576 := by omega
  have hsl := shared_len l0 a1
  have hB0 : Below w.heap.size w w := Below.refl _ _
  go_enter Try.func3, Try.ntmps3
  go_wp2_with fail
  refine (szStoreS_ok A0 c0 l0 _ _ (by omega) (by omega)).mono ?_
  rintro e w1 ⟨rfl, hb1⟩
  have hB1' := hB0.trans (hb1.mono hB0.size)
  have hz1' : w.heap.size ≤ w1.heap.size := hb1.size
  go_wp2_with fail
  refine (toStoreS_any A0 c0 l0 _ (Rd.later h0_0 hB1') hs0).mono ?_
  rintro e w2 ⟨A'2, c'2, rfl, ho0_2, hb2⟩
  have hB2' := hB1'.trans (hb2.mono hB1'.size)
  have hz2' : w1.heap.size ≤ w2.heap.size := hb2.size
  have ot2_0_n := Row2.born ho0_2
  clear ho0_2
  go_wp2_with fail
  refine (SharedReserveS_any A'2 c'2 l0 a1 _ ot2_0_n.rd).mono ?_
  rintro e w3 ⟨Ar0_3, cr0_3, rfl, ho0_3, hb3⟩
  have ot2_0_3' := Row2.below ot2_0_n hb3 (by omega)
  clear ot2_0_n
  have hB3' := hB2'.trans (hb3.mono hB2'.size)
  have hz3' : w2.heap.size ≤ w3.heap.size := hb3.size
  have ow0_3_0_n := Row2.born ho0_3
  clear ho0_3
  go_wp2_with fail
  refine (toStoreS_any A0 c0 l0 _ (Rd.later h0_0 hB3') hs0).mono ?_
  rintro e w4 ⟨A'4, c'4, rfl, ho0_4, hb4⟩
  have ow0_3_0_4' := Row2.below ow0_3_0_n hb4 (by omega)
  clear ow0_3_0_n
  have hB4' := hB3'.trans (hb4.mono hB3'.size)
  have hz4' : w3.heap.size ≤ w4.heap.size := hb4.size
  have ot4_0_n := Row2.born ho0_4
  clear ho0_4
  go_wp2_with fail
  refine (SharedReserve_any A'4 c'4 l0 a1 _ ot4_0_n.rd).mono ?_
  rintro e w5 ⟨Ar0_5, cr0_5, rfl, ho0_5, hb5⟩
  have ow0_3_0_5' := Row2.below ow0_3_0_4' hb5 (by omega)
  clear ow0_3_0_4'
  have ot4_0_5' := Row2.below ot4_0_n hb5 (by omega)
  clear ot4_0_n
  have hB5' := hB4'.trans (hb5.mono hB4'.size)
  have hz5' : w4.heap.size ≤ w5.heap.size := hb5.size
  have og0_5_0_n := Row2.born ho0_5
  clear ho0_5
  go_wp2_with fail
  refine (eqIntS_same Ar0_5 cr0_5 Ar0_3 cr0_3 ((shared l0 a1)) _ og0_5_0_n.rd ow0_3_0_5'.rd).mono ?_
  rintro e w6 ⟨rfl, hb6⟩
  have ow0_3_0_6' := Row2.below ow0_3_0_5' hb6 (by omega)
  clear ow0_3_0_5'
  have ot4_0_6' := Row2.below ot4_0_5' hb6 (by omega)
  clear ot4_0_5'
  have og0_5_0_6' := Row2.below og0_5_0_n hb6 (by omega)
  clear og0_5_0_n
  have hB6' := hB5'.trans (hb6.mono hB5'.size)
  have hz6' : w5.heap.size ≤ w6.heap.size := hb6.size
  go_wp2_with fail
  refine (toStoreS_any A0 c0 l0 _ (Rd.later h0_0 hB6') hs0).mono ?_
  rintro e w7 ⟨A'7, c'7, rfl, ho0_7, hb7⟩
  have ow0_3_0_7' := Row2.below ow0_3_0_6' hb7 (by omega)
  clear ow0_3_0_6'
  have ot4_0_7' := Row2.below ot4_0_6' hb7 (by omega)
  clear ot4_0_6'
  have og0_5_0_7' := Row2.below og0_5_0_6' hb7 (by omega)
  clear og0_5_0_6'
  have hB7' := hB6'.trans (hb7.mono hB6'.size)
  have hz7' : w6.heap.size ≤ w7.heap.size := hb7.size
  have ot7_0_n := Row2.born ho0_7
  clear ho0_7
  go_wp2_with fail
  refine (eqStoreS_same A'4 c'4 A'7 c'7 (l0) _ ot4_0_7'.rd ot7_0_n.rd).mono ?_
  rintro e w8 ⟨rfl, hb8⟩
  have ow0_3_0_8' := Row2.below ow0_3_0_7' hb8 (by omega)
  clear ow0_3_0_7'
  have ot4_0_8' := Row2.below ot4_0_7' hb8 (by omega)
  clear ot4_0_7'
  have og0_5_0_8' := Row2.below og0_5_0_7' hb8 (by omega)
  clear og0_5_0_7'
  have ot7_0_8' := Row2.below ot7_0_n hb8 (by omega)
  clear ot7_0_n
  have hB8' := hB7'.trans (hb8.mono hB7'.size)
  have hz8' : w7.heap.size ≤ w8.heap.size := hb8.size
  go_wp2_with fail
  refine (markStoreS_2 A'4 c'4 _ _ (l0) (1) _ (by omega) _ ot4_0_8' (by first | omega | (simp; omega)) (by first | omega | (simp; omega))).mono ?_
  rintro e w9 ⟨rfl, hm0_9, hc9⟩
  have ow0_3_0_9' := Row2.chg ow0_3_0_8' hc9 (by omega)
  clear ow0_3_0_8'
  clear ot4_0_8'
  have og0_5_0_9' := Row2.chg og0_5_0_8' hc9 (by omega)
  clear og0_5_0_8'
  have hB9' := Chg.below hB8' hc9 (by omega) hB8'.size
  have hz9' : w8.heap.size ≤ w9.heap.size := hc9.size
  go_wp2_with fail
  refine (eqIntS_same Ar0_5 cr0_5 Ar0_3 cr0_3 ((shared l0 a1)) _ og0_5_0_9'.rd ow0_3_0_9'.rd).mono ?_
  rintro e w10 ⟨rfl, hb10⟩
  have ow0_3_0_10' := Row2.below ow0_3_0_9' hb10 (by omega)
  clear ow0_3_0_9'
  have ot4_0_10' := Row2.below hm0_9 hb10 (by omega)
  clear hm0_9
  have og0_5_0_10' := Row2.below og0_5_0_9' hb10 (by omega)
  clear og0_5_0_9'
  have hB10' := hB9'.trans (hb10.mono hB9'.size)
  have hz10' : w9.heap.size ≤ w10.heap.size := hb10.size
  go_wp2_with fail
  refine (markIntS_2 Ar0_5 cr0_5 _ _ ((shared l0 a1)) (1) _ (by omega) _ og0_5_0_10' (by first | omega | (simp; omega))).mono ?_
  rintro e w11 ⟨rfl, hm0_11, hc11⟩
  have ow0_3_0_11' := Row2.chg ow0_3_0_10' hc11 (by omega)
  clear ow0_3_0_10'
  have ot4_0_11' := Row2.chg ot4_0_10' hc11 (by omega)
  clear ot4_0_10'
  clear og0_5_0_10'
  have hB11' := Chg.below hB10' hc11 (by omega) hB10'.size
  have hz11' : w10.heap.size ≤ w11.heap.size := hc11.size
  go_wp2_with fail
  refine (heldIntS_2 Ar0_5 cr0_5 _ _ ((shared l0 a1).length) (1) _ (by omega) _ hm0_11 (by first | omega | (simp; omega))).mono ?_
  rintro e w12 ⟨rfl, hb12⟩
  have ow0_3_0_12' := Row2.below ow0_3_0_11' hb12 (by omega)
  clear ow0_3_0_11'
  have ot4_0_12' := Row2.below ot4_0_11' hb12 (by omega)
  clear ot4_0_11'
  have og0_5_0_12' := Row2.below hm0_11 hb12 (by omega)
  clear hm0_11
  have hB12' := hB11'.trans (hb12.mono hB11'.size)
  have hz12' : w11.heap.size ≤ w12.heap.size := hb12.size
  go_wp2_with fail
  refine (toStoreS_any A0 c0 l0 _ (Rd.later h0_0 hB12') hs0).mono ?_
  rintro e w13 ⟨A'13, c'13, rfl, ho0_13, hb13⟩
  have ow0_3_0_13' := Row2.below ow0_3_0_12' hb13 (by omega)
  clear ow0_3_0_12'
  have ot4_0_13' := Row2.below ot4_0_12' hb13 (by omega)
  clear ot4_0_12'
  have og0_5_0_13' := Row2.below og0_5_0_12' hb13 (by omega)
  clear og0_5_0_12'
  have hB13' := hB12'.trans (hb13.mono hB12'.size)
  have hz13' : w12.heap.size ≤ w13.heap.size := hb13.size
  have ot13_0_n := Row2.born ho0_13
  clear ho0_13
  go_wp2_with fail
  refine (SharedReserve_any A'13 c'13 l0 a1 _ ot13_0_n.rd).mono ?_
  rintro e w14 ⟨Ar0_14, cr0_14, rfl, ho0_14, hb14⟩
  have ow0_3_0_14' := Row2.below ow0_3_0_13' hb14 (by omega)
  clear ow0_3_0_13'
  have ot4_0_14' := Row2.below ot4_0_13' hb14 (by omega)
  clear ot4_0_13'
  have og0_5_0_14' := Row2.below og0_5_0_13' hb14 (by omega)
  clear og0_5_0_13'
  have ot13_0_14' := Row2.below ot13_0_n hb14 (by omega)
  clear ot13_0_n
  have hB14' := hB13'.trans (hb14.mono hB13'.size)
  have hz14' : w13.heap.size ≤ w14.heap.size := hb14.size
  have oh0_14_0_n := Row2.born ho0_14
  clear ho0_14
  go_wp2_with fail
  refine (eqIntS_same Ar0_14 cr0_14 Ar0_3 cr0_3 ((shared l0 a1)) _ oh0_14_0_n.rd ow0_3_0_14'.rd).mono ?_
  rintro e w15 ⟨rfl, hb15⟩
  have ow0_3_0_15' := Row2.below ow0_3_0_14' hb15 (by omega)
  clear ow0_3_0_14'
  have ot4_0_15' := Row2.below ot4_0_14' hb15 (by omega)
  clear ot4_0_14'
  have og0_5_0_15' := Row2.below og0_5_0_14' hb15 (by omega)
  clear og0_5_0_14'
  have oh0_14_0_15' := Row2.below oh0_14_0_n hb15 (by omega)
  clear oh0_14_0_n
  have hB15' := hB14'.trans (hb15.mono hB14'.size)
  have hz15' : w14.heap.size ≤ w15.heap.size := hb15.size
  go_wp2_with fail
  refine (heldIntS_2 Ar0_5 cr0_5 _ _ ((shared l0 a1).length) (1) _ (by omega) _ og0_5_0_15' (by first | omega | (simp; omega))).mono ?_
  rintro e w16 ⟨rfl, hb16⟩
  have ow0_3_0_16' := Row2.below ow0_3_0_15' hb16 (by omega)
  clear ow0_3_0_15'
  have ot4_0_16' := Row2.below ot4_0_15' hb16 (by omega)
  clear ot4_0_15'
  have og0_5_0_16' := Row2.below og0_5_0_15' hb16 (by omega)
  clear og0_5_0_15'
  have oh0_14_0_16' := Row2.below oh0_14_0_15' hb16 (by omega)
  clear oh0_14_0_15'
  have hB16' := hB15'.trans (hb16.mono hB15'.size)
  have hz16' : w15.heap.size ≤ w16.heap.size := hb16.size
  go_wp2_with fail
  go_ret
  exact ⟨rfl, hB16'⟩
set_option maxRecDepth 100000 in
theorem lifted_FnExactSharedReserve (os : Os) (started : os.Started) (H : Type) (enc : TypeId × Value → H) :
    ReturnsInHanded {} Try.checked os 3 .any (Rows.fnExactSharedReserveSpec.pre6 enc Try.prog Try.f3 Rows.fnExactSharedReserveRow.domain false) (Rows.fnExactSharedReserveSpec.post enc Try.prog Try.f3 false true false false) := by
  refine returnsInHanded_of_change (C := Try.checked) own_knob started (by kernel_rfl) Try.func3
    (ChangeSpec.witness6 (enc := enc) (C := Try.checked) false ⟨#[], #[.slice none 0 0, .int .i64 0], []⟩ 8 (by kernel_rfl) (by kernel_rfl) (by kernel_rfl) (by kernel_rfl)) ?_
  intro W base args ds gs before hval0 hW hcnd _
  have hval : ∀ (j : Nat) t v, Try.f3.params[j]? = some t → args[j]? = some v → Value.okWide Try.prog W .any base t v := hval0
  have hW' := hW
  obtain ⟨p, q, hA0, hV, rfl, hfz, hnd⟩ := hW
  have hA : DataW.TrodAll enc Try.prog W 0 (fun _ => true) true Try.f3.params.toList args.toList ds p := hA0
  rw [Try.params3] at hA hval
  obtain ⟨v0, vs0, d0, ds0, p0, q0, hargs, rfl, rfl, h0, r0⟩ := trodAll_cons hA
  obtain ⟨v1, vs1, d1, ds1, p1, q1, rfl, rfl, rfl, h1, r1⟩ := trodAll_cons r0
  obtain ⟨rfl, rfl, rfl⟩ := trodAll_nil r1
  obtain rfl : args = #[v0, v1] := by cases args; simp_all
  obtain ⟨rfl, rfl⟩ := trodVars_none hV
  obtain ⟨A0, c0, l0, rfl, hr0⟩ := arg_stores (hval 0 22 v0 rfl rfl) h0
  have lt0 : ∀ x ∈ p0, x.block < W.heap.size := by obtain ⟨m, hm⟩ := h0; exact DataW.trod_lt m _ _ _ hm
  obtain ⟨a1, rfl, hi1⟩ := arg_int (hval 1 3 v1 rfl rfl) h1
  have lt1 : ∀ x ∈ p1, x.block < W.heap.size := by obtain ⟨m, hm⟩ := h1; exact DataW.trod_lt m _ _ _ hm
  clear hA0 hval0
  refine (walk_FnExactSharedReserve W A0 c0 l0 hr0 a1 hi1).mono fun e W' ⟨he, bel⟩ => ?_
  subst he
  exact ⟨_, rfl, _, _, _, [], _, [], hW', trodAll_mk1 (shut_bool Try.underlying4 _), (trodAll_cons_mk (Below.trod laid_out (by kernel_rfl) (of_decide_eq_true (by kernel_rfl)) h0 bel lt0) (trodAll_cons_mk (Below.trod laid_out (by kernel_rfl) (of_decide_eq_true (by kernel_rfl)) h1 bel lt1) trodAll_mk0)), rfl, bel.frame _, fun h => by cases h⟩

theorem fnExactSharedReserve_holds : Rows.FnExactSharedReserveSaid :=
  OpenClaim.holds_of_wide 3 Try.f3 rfl rfl rfl rfl rfl rfl rfl ⟨rfl, rfl, rfl, rfl, rfl⟩ rfl rfl rfl rfl rfl (by kernel_rfl) Try.func3 (by kernel_rfl)
    (of_decide_eq_true (by kernel_rfl)) (by unfold Func.isWrapper; rw [if_neg (by decide +kernel)]; exact ⟨rfl, rfl⟩)
    (fun os started H enc _ => lifted_FnExactSharedReserve os started H enc)
end Go.Proofs.Ytnedbdpcimhfgab
