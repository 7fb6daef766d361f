/- The law FnExactDryYears answers true for all arguments. No conditions. -/
import Derived.Test.YtnedbdpcimhfgaaDry
import Derived.Test.YtnedbdpcimhfgaaTo
import Derived.Test.YtnedbdpcimhfgaaOpen
namespace Go.Proofs.Ytnedbdpcimhfgaa
open Go.ChangeShapes Go.WideShapes Go.ChangeAt Go.RowKit
set_option maxRecDepth 20000
set_option maxHeartbeats 1600000 in
theorem walk_FnExactDryYears (w : World) (A0 : Option Addr) (c0 : Nat) (l0 : List Int) (h0_0 : RdI w w.heap.size A0 c0 l0) (a1 : Int) (h1_0 : I64 a1) :
    Calls Try.prog 9 #[.slice A0 l0.length c0, .int .i64 a1] w fun e w' => e = .returned (.bool true) ∧ Below w.heap.size w w' := by
  by_cases hbig0 : (1048576 : Int) < l0.length
  · go_enter Try.func9, Try.ntmps9
    go_wp2
    go_ret
    exact ⟨rfl, Below.refl _ _⟩
  have hs0 : l0.length ≤ 1048576 := by omega
  have hsl := dryY_len l0 a1
  have hB0 : Below w.heap.size w w := Below.refl _ _
  go_enter Try.func9, Try.ntmps9
  go_wp2_with fail
  refine (toIntS_any A0 c0 l0 _ (Rd.later h0_0 hB0) hs0).mono ?_
  rintro e w1 ⟨A'1, c'1, rfl, ho0_1, hb1⟩
  have hB1' := hB0.trans (hb1.mono hB0.size)
  have hz1' : w.heap.size ≤ w1.heap.size := hb1.size
  have ot1_0_n := Row2.born ho0_1
  clear ho0_1
  go_wp2_with fail
  refine (DryYearsS_any A'1 c'1 l0 a1 _ ot1_0_n.rd).mono ?_
  rintro e w2 ⟨Ar0_2, cr0_2, rfl, ho0_2, hb2⟩
  have ot1_0_2' := Row2.below ot1_0_n hb2 (by omega)
  clear ot1_0_n
  have hB2' := hB1'.trans (hb2.mono hB1'.size)
  have hz2' : w1.heap.size ≤ w2.heap.size := hb2.size
  have ow0_2_0_n := Row2.born ho0_2
  clear ho0_2
  go_wp2_with fail
  refine (toIntS_any A0 c0 l0 _ (Rd.later h0_0 hB2') hs0).mono ?_
  rintro e w3 ⟨A'3, c'3, rfl, ho0_3, hb3⟩
  have ow0_2_0_3' := Row2.below ow0_2_0_n hb3 (by omega)
  clear ow0_2_0_n
  have hB3' := hB2'.trans (hb3.mono hB2'.size)
  have hz3' : w2.heap.size ≤ w3.heap.size := hb3.size
  have ot3_0_n := Row2.born ho0_3
  clear ho0_3
  go_wp2_with fail
  refine (DryYears_any A'3 c'3 l0 a1 _ ot3_0_n.rd).mono ?_
  rintro e w4 ⟨Ar0_4, cr0_4, rfl, ho0_4, hb4⟩
  have ow0_2_0_4' := Row2.below ow0_2_0_3' hb4 (by omega)
  clear ow0_2_0_3'
  have ot3_0_4' := Row2.below ot3_0_n hb4 (by omega)
  clear ot3_0_n
  have hB4' := hB3'.trans (hb4.mono hB3'.size)
  have hz4' : w3.heap.size ≤ w4.heap.size := hb4.size
  have og0_4_0_n := Row2.born ho0_4
  clear ho0_4
  go_wp2_with fail
  refine (eqIntS_same Ar0_4 cr0_4 Ar0_2 cr0_2 ((dryY l0 a1)) _ og0_4_0_n.rd ow0_2_0_4'.rd).mono ?_
  rintro e w5 ⟨rfl, hb5⟩
  have ow0_2_0_5' := Row2.below ow0_2_0_4' hb5 (by omega)
  clear ow0_2_0_4'
  have ot3_0_5' := Row2.below ot3_0_4' hb5 (by omega)
  clear ot3_0_4'
  have og0_4_0_5' := Row2.below og0_4_0_n hb5 (by omega)
  clear og0_4_0_n
  have hB5' := hB4'.trans (hb5.mono hB4'.size)
  have hz5' : w4.heap.size ≤ w5.heap.size := hb5.size
  go_wp2_with fail
  refine (toIntS_any A0 c0 l0 _ (Rd.later h0_0 hB5') hs0).mono ?_
  rintro e w6 ⟨A'6, c'6, rfl, ho0_6, hb6⟩
  have ow0_2_0_6' := Row2.below ow0_2_0_5' hb6 (by omega)
  clear ow0_2_0_5'
  have ot3_0_6' := Row2.below ot3_0_5' hb6 (by omega)
  clear ot3_0_5'
  have og0_4_0_6' := Row2.below og0_4_0_5' hb6 (by omega)
  clear og0_4_0_5'
  have hB6' := hB5'.trans (hb6.mono hB5'.size)
  have hz6' : w5.heap.size ≤ w6.heap.size := hb6.size
  have ot6_0_n := Row2.born ho0_6
  clear ho0_6
  go_wp2_with fail
  refine (eqIntS_same A'3 c'3 A'6 c'6 (l0) _ ot3_0_6'.rd ot6_0_n.rd).mono ?_
  rintro e w7 ⟨rfl, hb7⟩
  have ow0_2_0_7' := Row2.below ow0_2_0_6' hb7 (by omega)
  clear ow0_2_0_6'
  have ot3_0_7' := Row2.below ot3_0_6' hb7 (by omega)
  clear ot3_0_6'
  have og0_4_0_7' := Row2.below og0_4_0_6' hb7 (by omega)
  clear og0_4_0_6'
  have ot6_0_7' := Row2.below ot6_0_n hb7 (by omega)
  clear ot6_0_n
  have hB7' := hB6'.trans (hb7.mono hB6'.size)
  have hz7' : w6.heap.size ≤ w7.heap.size := hb7.size
  go_wp2_with fail
  refine (markIntS_2 A'3 c'3 _ _ (l0) (1) _ (by omega) _ ot3_0_7' (by first | omega | (simp; omega))).mono ?_
  rintro e w8 ⟨rfl, hm0_8, hc8⟩
  have ow0_2_0_8' := Row2.chg ow0_2_0_7' hc8 (by omega)
  clear ow0_2_0_7'
  clear ot3_0_7'
  have og0_4_0_8' := Row2.chg og0_4_0_7' hc8 (by omega)
  clear og0_4_0_7'
  have hB8' := Chg.below hB7' hc8 (by omega) hB7'.size
  have hz8' : w7.heap.size ≤ w8.heap.size := hc8.size
  go_wp2_with fail
  refine (eqIntS_same Ar0_4 cr0_4 Ar0_2 cr0_2 ((dryY l0 a1)) _ og0_4_0_8'.rd ow0_2_0_8'.rd).mono ?_
  rintro e w9 ⟨rfl, hb9⟩
  have ow0_2_0_9' := Row2.below ow0_2_0_8' hb9 (by omega)
  clear ow0_2_0_8'
  have ot3_0_9' := Row2.below hm0_8 hb9 (by omega)
  clear hm0_8
  have og0_4_0_9' := Row2.below og0_4_0_8' hb9 (by omega)
  clear og0_4_0_8'
  have hB9' := hB8'.trans (hb9.mono hB8'.size)
  have hz9' : w8.heap.size ≤ w9.heap.size := hb9.size
  go_wp2_with fail
  refine (markIntS_2 Ar0_4 cr0_4 _ _ ((dryY l0 a1)) (1) _ (by omega) _ og0_4_0_9' (by first | omega | (simp; omega))).mono ?_
  rintro e w10 ⟨rfl, hm0_10, hc10⟩
  have ow0_2_0_10' := Row2.chg ow0_2_0_9' hc10 (by omega)
  clear ow0_2_0_9'
  have ot3_0_10' := Row2.chg ot3_0_9' hc10 (by omega)
  clear ot3_0_9'
  clear og0_4_0_9'
  have hB10' := Chg.below hB9' hc10 (by omega) hB9'.size
  have hz10' : w9.heap.size ≤ w10.heap.size := hc10.size
  go_wp2_with fail
  refine (heldIntS_2 Ar0_4 cr0_4 _ _ ((dryY l0 a1).length) (1) _ (by omega) _ hm0_10 (by first | omega | (simp; omega))).mono ?_
  rintro e w11 ⟨rfl, hb11⟩
  have ow0_2_0_11' := Row2.below ow0_2_0_10' hb11 (by omega)
  clear ow0_2_0_10'
  have ot3_0_11' := Row2.below ot3_0_10' hb11 (by omega)
  clear ot3_0_10'
  have og0_4_0_11' := Row2.below hm0_10 hb11 (by omega)
  clear hm0_10
  have hB11' := hB10'.trans (hb11.mono hB10'.size)
  have hz11' : w10.heap.size ≤ w11.heap.size := hb11.size
  go_wp2_with fail
  refine (toIntS_any A0 c0 l0 _ (Rd.later h0_0 hB11') hs0).mono ?_
  rintro e w12 ⟨A'12, c'12, rfl, ho0_12, hb12⟩
  have ow0_2_0_12' := Row2.below ow0_2_0_11' hb12 (by omega)
  clear ow0_2_0_11'
  have ot3_0_12' := Row2.below ot3_0_11' hb12 (by omega)
  clear ot3_0_11'
  have og0_4_0_12' := Row2.below og0_4_0_11' hb12 (by omega)
  clear og0_4_0_11'
  have hB12' := hB11'.trans (hb12.mono hB11'.size)
  have hz12' : w11.heap.size ≤ w12.heap.size := hb12.size
  have ot12_0_n := Row2.born ho0_12
  clear ho0_12
  go_wp2_with fail
  refine (DryYears_any A'12 c'12 l0 a1 _ ot12_0_n.rd).mono ?_
  rintro e w13 ⟨Ar0_13, cr0_13, rfl, ho0_13, hb13⟩
  have ow0_2_0_13' := Row2.below ow0_2_0_12' hb13 (by omega)
  clear ow0_2_0_12'
  have ot3_0_13' := Row2.below ot3_0_12' hb13 (by omega)
  clear ot3_0_12'
  have og0_4_0_13' := Row2.below og0_4_0_12' hb13 (by omega)
  clear og0_4_0_12'
  have ot12_0_13' := Row2.below ot12_0_n hb13 (by omega)
  clear ot12_0_n
  have hB13' := hB12'.trans (hb13.mono hB12'.size)
  have hz13' : w12.heap.size ≤ w13.heap.size := hb13.size
  have oh0_13_0_n := Row2.born ho0_13
  clear ho0_13
  go_wp2_with fail
  refine (eqIntS_same Ar0_13 cr0_13 Ar0_2 cr0_2 ((dryY l0 a1)) _ oh0_13_0_n.rd ow0_2_0_13'.rd).mono ?_
  rintro e w14 ⟨rfl, hb14⟩
  have ow0_2_0_14' := Row2.below ow0_2_0_13' hb14 (by omega)
  clear ow0_2_0_13'
  have ot3_0_14' := Row2.below ot3_0_13' hb14 (by omega)
  clear ot3_0_13'
  have og0_4_0_14' := Row2.below og0_4_0_13' hb14 (by omega)
  clear og0_4_0_13'
  have oh0_13_0_14' := Row2.below oh0_13_0_n hb14 (by omega)
  clear oh0_13_0_n
  have hB14' := hB13'.trans (hb14.mono hB13'.size)
  have hz14' : w13.heap.size ≤ w14.heap.size := hb14.size
  go_wp2_with fail
  refine (heldIntS_2 Ar0_4 cr0_4 _ _ ((dryY l0 a1).length) (1) _ (by omega) _ og0_4_0_14' (by first | omega | (simp; omega))).mono ?_
  rintro e w15 ⟨rfl, hb15⟩
  have ow0_2_0_15' := Row2.below ow0_2_0_14' hb15 (by omega)
  clear ow0_2_0_14'
  have ot3_0_15' := Row2.below ot3_0_14' hb15 (by omega)
  clear ot3_0_14'
  have og0_4_0_15' := Row2.below og0_4_0_14' hb15 (by omega)
  clear og0_4_0_14'
  have oh0_13_0_15' := Row2.below oh0_13_0_14' hb15 (by omega)
  clear oh0_13_0_14'
  have hB15' := hB14'.trans (hb15.mono hB14'.size)
  have hz15' : w14.heap.size ≤ w15.heap.size := hb15.size
  go_wp2_with fail
  go_ret
  exact ⟨rfl, hB15'⟩
set_option maxRecDepth 100000 in
theorem lifted_FnExactDryYears (os : Os) (started : os.Started) (H : Type) (enc : TypeId × Value → H) :
    ReturnsInHanded {} Try.checked os 9 .any (Rows.fnExactDryYearsSpec.pre6 enc Try.prog Try.f9 Rows.fnExactDryYearsRow.domain false) (Rows.fnExactDryYearsSpec.post enc Try.prog Try.f9 false true false false) := by
  refine returnsInHanded_of_change (C := Try.checked) own_knob started (by kernel_rfl) Try.func9
    (ChangeSpec.witness6 (enc := enc) (C := Try.checked) false ⟨#[], #[.slice none 0 0, .int .i64 0], []⟩ 8 (by kernel_rfl) (by kernel_rfl) (by kernel_rfl) (by kernel_rfl)) ?_
  intro W base args ds gs before hval0 hW hcnd _
  have hval : ∀ (j : Nat) t v, Try.f9.params[j]? = some t → args[j]? = some v → Value.okWide Try.prog W .any base t v := hval0
  have hW' := hW
  obtain ⟨p, q, hA0, hV, rfl, hfz, hnd⟩ := hW
  have hA : DataW.TrodAll enc Try.prog W 0 (fun _ => true) true Try.f9.params.toList args.toList ds p := hA0
  rw [Try.params9] at hA hval
  obtain ⟨v0, vs0, d0, ds0, p0, q0, hargs, rfl, rfl, h0, r0⟩ := trodAll_cons hA
  obtain ⟨v1, vs1, d1, ds1, p1, q1, rfl, rfl, rfl, h1, r1⟩ := trodAll_cons r0
  obtain ⟨rfl, rfl, rfl⟩ := trodAll_nil r1
  obtain rfl : args = #[v0, v1] := by cases args; simp_all
  obtain ⟨rfl, rfl⟩ := trodVars_none hV
  obtain ⟨A0, c0, l0, rfl, hr0⟩ := arg_ints (hval 0 47 v0 rfl rfl) h0
  have lt0 : ∀ x ∈ p0, x.block < W.heap.size := by obtain ⟨m, hm⟩ := h0; exact DataW.trod_lt m _ _ _ hm
  obtain ⟨a1, rfl, hi1⟩ := arg_int (hval 1 3 v1 rfl rfl) h1
  have lt1 : ∀ x ∈ p1, x.block < W.heap.size := by obtain ⟨m, hm⟩ := h1; exact DataW.trod_lt m _ _ _ hm
  clear hA0 hval0
  refine (walk_FnExactDryYears W A0 c0 l0 hr0 a1 hi1).mono fun e W' ⟨he, bel⟩ => ?_
  subst he
  exact ⟨_, rfl, _, _, _, [], _, [], hW', trodAll_mk1 (shut_bool Try.underlying4 _), (trodAll_cons_mk (Below.trod laid_out (by kernel_rfl) (of_decide_eq_true (by kernel_rfl)) h0 bel lt0) (trodAll_cons_mk (Below.trod laid_out (by kernel_rfl) (of_decide_eq_true (by kernel_rfl)) h1 bel lt1) trodAll_mk0)), rfl, bel.frame _, fun h => by cases h⟩

theorem fnExactDryYears_holds : Rows.FnExactDryYearsSaid :=
  OpenClaim.holds_of_wide 9 Try.f9 rfl rfl rfl rfl rfl rfl rfl ⟨rfl, rfl, rfl, rfl, rfl⟩ rfl rfl rfl rfl rfl (by kernel_rfl) Try.func9 (by kernel_rfl)
    (of_decide_eq_true (by kernel_rfl)) (by unfold Func.isWrapper; rw [if_neg (by decide +kernel)]; exact ⟨rfl, rfl⟩)
    (fun os started H enc _ => lifted_FnExactDryYears os started H enc)
end Go.Proofs.Ytnedbdpcimhfgaa
