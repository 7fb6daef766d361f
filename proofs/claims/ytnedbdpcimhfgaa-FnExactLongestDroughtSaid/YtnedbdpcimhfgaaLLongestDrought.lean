/- The law FnExactLongestDrought answers true for all arguments. No conditions. -/
import Derived.Test.YtnedbdpcimhfgaaLong
import Derived.Test.YtnedbdpcimhfgaaTo
import Derived.Test.YtnedbdpcimhfgaaOpen
namespace Go.Proofs.Ytnedbdpcimhfgaa
open Go.ChangeShapes Go.WideShapes Go.ChangeAt Go.RowKit
set_option maxRecDepth 20000
set_option maxHeartbeats 1600000 in
theorem walk_FnExactLongestDrought (w : World) (A0 : Option Addr) (c0 : Nat) (l0 : List Int) (h0_0 : RdI w w.heap.size A0 c0 l0) (a1 : Int) (h1_0 : I64 a1) :
    Calls Try.prog 10 #[.slice A0 l0.length c0, .int .i64 a1] w fun e w' => e = .returned (.bool true) ∧ Below w.heap.size w w' := by
  by_cases hbig0 : (1048576 : Int) < l0.length
  · go_enter Try.func10, Try.ntmps10
    go_wp2
    go_ret
    exact ⟨rfl, Below.refl _ _⟩
  have hs0 : l0.length ≤ 1048576 := by omega
  obtain ⟨r0, hr_0⟩ : ∃ r, r = (longY l0 a1) := ⟨_, rfl⟩
  have HR0 := Lib.hid hr_0; clear hr_0
  have hq0 : (r0 != r0) = false := by simp
  have hB0 : Below w.heap.size w w := Below.refl _ _
  go_enter Try.func10, Try.ntmps10
  go_wp2_with fail
  refine (toIntS_any A0 c0 l0 _ (Rd.later h0_0 hB0) hs0).mono ?_
  rintro e w1 ⟨A'1, c'1, rfl, ho0_1, hb1⟩
  have hB1' := hB0.trans (hb1.mono hB0.size)
  have hz1' : w.heap.size ≤ w1.heap.size := hb1.size
  have ot1_0_n := Row2.born ho0_1
  clear ho0_1
  go_wp2_with fail
  refine (post_b (LongestDroughtS_any A'1 c'1 l0 a1 _ ot1_0_n.rd)).mono ?_
  rintro e w2 ⟨rfl, hb2⟩
  have ot1_0_2' := Row2.below ot1_0_n hb2 (by omega)
  clear ot1_0_n
  have hB2' := hB1'.trans (hb2.mono hB1'.size)
  have hz2' : w1.heap.size ≤ w2.heap.size := hb2.size
  rw [← HR0.out]
  go_wp2_with fail
  refine (toIntS_any A0 c0 l0 _ (Rd.later h0_0 hB2') hs0).mono ?_
  rintro e w3 ⟨A'3, c'3, rfl, ho0_3, hb3⟩
  have hB3' := hB2'.trans (hb3.mono hB2'.size)
  have hz3' : w2.heap.size ≤ w3.heap.size := hb3.size
  have ot3_0_n := Row2.born ho0_3
  clear ho0_3
  go_wp2_with fail
  refine (post_b (LongestDrought_any A'3 c'3 l0 a1 _ ot3_0_n.rd)).mono ?_
  rintro e w4 ⟨rfl, hb4⟩
  have ot3_0_4' := Row2.below ot3_0_n hb4 (by omega)
  clear ot3_0_n
  have hB4' := hB3'.trans (hb4.mono hB3'.size)
  have hz4' : w3.heap.size ≤ w4.heap.size := hb4.size
  rw [← HR0.out]
  go_wp2_with fail
  refine (toIntS_any A0 c0 l0 _ (Rd.later h0_0 hB4') hs0).mono ?_
  rintro e w5 ⟨A'5, c'5, rfl, ho0_5, hb5⟩
  have ot3_0_5' := Row2.below ot3_0_4' hb5 (by omega)
  clear ot3_0_4'
  have hB5' := hB4'.trans (hb5.mono hB4'.size)
  have hz5' : w4.heap.size ≤ w5.heap.size := hb5.size
  have ot5_0_n := Row2.born ho0_5
  clear ho0_5
  go_wp2_with fail
  refine (eqIntS_same A'3 c'3 A'5 c'5 (l0) _ ot3_0_5'.rd ot5_0_n.rd).mono ?_
  rintro e w6 ⟨rfl, hb6⟩
  have ot3_0_6' := Row2.below ot3_0_5' hb6 (by omega)
  clear ot3_0_5'
  have ot5_0_6' := Row2.below ot5_0_n hb6 (by omega)
  clear ot5_0_n
  have hB6' := hB5'.trans (hb6.mono hB5'.size)
  have hz6' : w5.heap.size ≤ w6.heap.size := hb6.size
  go_wp2_with fail
  go_ret
  exact ⟨rfl, hB6'⟩
set_option maxRecDepth 100000 in
theorem lifted_FnExactLongestDrought (os : Os) (started : os.Started) (H : Type) (enc : TypeId × Value → H) :
    ReturnsInHanded {} Try.checked os 10 .any (Rows.fnExactLongestDroughtSpec.pre6 enc Try.prog Try.f10 Rows.fnExactLongestDroughtRow.domain false) (Rows.fnExactLongestDroughtSpec.post enc Try.prog Try.f10 false true false false) := by
  refine returnsInHanded_of_change (C := Try.checked) own_knob started (by kernel_rfl) Try.func10
    (ChangeSpec.witness6 (enc := enc) (C := Try.checked) false ⟨#[], #[.slice none 0 0, .int .i64 0], []⟩ 8 (by kernel_rfl) (by kernel_rfl) (by kernel_rfl) (by kernel_rfl)) ?_
  intro W base args ds gs before hval0 hW hcnd _
  have hval : ∀ (j : Nat) t v, Try.f10.params[j]? = some t → args[j]? = some v → Value.okWide Try.prog W .any base t v := hval0
  have hW' := hW
  obtain ⟨p, q, hA0, hV, rfl, hfz, hnd⟩ := hW
  have hA : DataW.TrodAll enc Try.prog W 0 (fun _ => true) true Try.f10.params.toList args.toList ds p := hA0
  rw [Try.params10] at hA hval
  obtain ⟨v0, vs0, d0, ds0, p0, q0, hargs, rfl, rfl, h0, r0⟩ := trodAll_cons hA
  obtain ⟨v1, vs1, d1, ds1, p1, q1, rfl, rfl, rfl, h1, r1⟩ := trodAll_cons r0
  obtain ⟨rfl, rfl, rfl⟩ := trodAll_nil r1
  obtain rfl : args = #[v0, v1] := by cases args; simp_all
  obtain ⟨rfl, rfl⟩ := trodVars_none hV
  obtain ⟨A0, c0, l0, rfl, hr0⟩ := arg_ints (hval 0 47 v0 rfl rfl) h0
  have lt0 : ∀ x ∈ p0, x.block < W.heap.size := by obtain ⟨m, hm⟩ := h0; exact DataW.trod_lt m _ _ _ hm
  obtain ⟨a1, rfl, hi1⟩ := arg_int (hval 1 3 v1 rfl rfl) h1
  have lt1 : ∀ x ∈ p1, x.block < W.heap.size := by obtain ⟨m, hm⟩ := h1; exact DataW.trod_lt m _ _ _ hm
  clear hA0 hval0
  refine (walk_FnExactLongestDrought W A0 c0 l0 hr0 a1 hi1).mono fun e W' ⟨he, bel⟩ => ?_
  subst he
  exact ⟨_, rfl, _, _, _, [], _, [], hW', trodAll_mk1 (shut_bool Try.underlying4 _), (trodAll_cons_mk (Below.trod laid_out (by kernel_rfl) (of_decide_eq_true (by kernel_rfl)) h0 bel lt0) (trodAll_cons_mk (Below.trod laid_out (by kernel_rfl) (of_decide_eq_true (by kernel_rfl)) h1 bel lt1) trodAll_mk0)), rfl, bel.frame _, fun h => by cases h⟩

theorem fnExactLongestDrought_holds : Rows.FnExactLongestDroughtSaid :=
  OpenClaim.holds_of_wide 10 Try.f10 rfl rfl rfl rfl rfl rfl rfl ⟨rfl, rfl, rfl, rfl, rfl⟩ rfl rfl rfl rfl rfl (by kernel_rfl) Try.func10 (by kernel_rfl)
    (of_decide_eq_true (by kernel_rfl)) (by unfold Func.isWrapper; rw [if_neg (by decide +kernel)]; exact ⟨rfl, rfl⟩)
    (fun os started H enc _ => lifted_FnExactLongestDrought os started H enc)
end Go.Proofs.Ytnedbdpcimhfgaa
