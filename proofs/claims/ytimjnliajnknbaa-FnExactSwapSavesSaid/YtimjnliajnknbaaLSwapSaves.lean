/- The law FnExactSwapSaves answers true for every two slices of ints and every number. No conditions. -/
import Derived.Test.YtimjnliajnknbaaTo
import Derived.Test.YtimjnliajnknbaaSwap
import Derived.Test.YtimjnliajnknbaaOpen
namespace Go.Proofs.Ytimjnliajnknbaa
open Go.ChangeShapes Go.WideShapes Go.ChangeAt Go.RowKit
set_option maxHeartbeats 1600000 in
theorem walk_FnExactSwapSaves (w : World) (A0 : Option Addr) (c0 : Nat) (l0 : List Int) (h0_0 : RdI w w.heap.size A0 c0 l0) (A1 : Option Addr) (c1 : Nat) (l1 : List Int) (h1_0 : RdI w w.heap.size A1 c1 l1) (a2 : Int) (h2_0 : I64 a2) :
    Calls Try.prog 11 #[.slice A0 l0.length c0, .slice A1 l1.length c1, .int .i64 a2] w fun e w' => e = .returned (.bool true) ∧ Below w.heap.size w w' := by
  by_cases hbig0 : (1048576 : Int) < l0.length
  · go_enter Try.func11, Try.ntmps11
    go_wp2
    go_ret
    exact ⟨rfl, Below.refl _ _⟩
  have hs0 : l0.length ≤ 1048576 := by omega
  by_cases hbig1 : (1048576 : Int) < l1.length
  · go_enter Try.func11, Try.ntmps11
    go_wp2
    go_ret
    exact ⟨rfl, Below.refl _ _⟩
  have hs1 : l1.length ≤ 1048576 := by omega
  obtain ⟨r0, hr_0⟩ : ∃ r, r = swapSaves l0 l1 a2 := ⟨_, rfl⟩
  have HR0 := Lib.hid hr_0; clear hr_0
  have hq0 : (r0 != r0) = false := by simp
  have hB0 : Below w.heap.size w w := Below.refl _ _
  go_enter Try.func11, Try.ntmps11
  go_wp2_with fail
  refine (toIntS_any A0 c0 l0 _ (Rd.later h0_0 hB0) hs0).mono ?_
  rintro e w1 ⟨A'1, c'1, rfl, ho0_1, hb1⟩
  have hB1' := hB0.trans (hb1.mono hB0.size)
  have hz1' : w.heap.size ≤ w1.heap.size := hb1.size
  have ot1_0_n := Row2.born ho0_1
  clear ho0_1
  go_wp2_with fail
  refine (toIntS_any A1 c1 l1 _ (Rd.later h1_0 hB1') hs1).mono ?_
  rintro e w2 ⟨A'2, c'2, rfl, ho0_2, hb2⟩
  have ot1_0_2' := Row2.below ot1_0_n hb2 (by omega)
  clear ot1_0_n
  have hB2' := hB1'.trans (hb2.mono hB1'.size)
  have hz2' : w1.heap.size ≤ w2.heap.size := hb2.size
  have ot2_0_n := Row2.born ho0_2
  clear ho0_2
  go_wp2_with fail
  refine (post_b (SwapSavesS_any A'1 c'1 l0 A'2 c'2 l1 a2 _ ot1_0_2'.rd ot2_0_n.rd hs1)).mono ?_
  rintro e w3 ⟨rfl, hb3⟩
  have ot1_0_3' := Row2.below ot1_0_2' hb3 (by omega)
  clear ot1_0_2'
  have ot2_0_3' := Row2.below ot2_0_n hb3 (by omega)
  clear ot2_0_n
  have hB3' := hB2'.trans (hb3.mono hB2'.size)
  have hz3' : w2.heap.size ≤ w3.heap.size := hb3.size
  rw [← HR0.out]
  go_wp2_with fail
  refine (toIntS_any A0 c0 l0 _ (Rd.later h0_0 hB3') hs0).mono ?_
  rintro e w4 ⟨A'4, c'4, rfl, ho0_4, hb4⟩
  have hB4' := hB3'.trans (hb4.mono hB3'.size)
  have hz4' : w3.heap.size ≤ w4.heap.size := hb4.size
  have ot4_0_n := Row2.born ho0_4
  clear ho0_4
  go_wp2_with fail
  refine (toIntS_any A1 c1 l1 _ (Rd.later h1_0 hB4') hs1).mono ?_
  rintro e w5 ⟨A'5, c'5, rfl, ho0_5, hb5⟩
  have ot4_0_5' := Row2.below ot4_0_n hb5 (by omega)
  clear ot4_0_n
  have hB5' := hB4'.trans (hb5.mono hB4'.size)
  have hz5' : w4.heap.size ≤ w5.heap.size := hb5.size
  have ot5_0_n := Row2.born ho0_5
  clear ho0_5
  go_wp2_with fail
  refine (post_b (SwapSaves_any A'4 c'4 l0 A'5 c'5 l1 a2 _ ot4_0_5'.rd ot5_0_n.rd hs1)).mono ?_
  rintro e w6 ⟨rfl, hb6⟩
  have ot4_0_6' := Row2.below ot4_0_5' hb6 (by omega)
  clear ot4_0_5'
  have ot5_0_6' := Row2.below ot5_0_n hb6 (by omega)
  clear ot5_0_n
  have hB6' := hB5'.trans (hb6.mono hB5'.size)
  have hz6' : w5.heap.size ≤ w6.heap.size := hb6.size
  rw [← HR0.out]
  go_wp2_with fail
  refine (toIntS_any A0 c0 l0 _ (Rd.later h0_0 hB6') hs0).mono ?_
  rintro e w7 ⟨A'7, c'7, rfl, ho0_7, hb7⟩
  have ot4_0_7' := Row2.below ot4_0_6' hb7 (by omega)
  clear ot4_0_6'
  have ot5_0_7' := Row2.below ot5_0_6' hb7 (by omega)
  clear ot5_0_6'
  have hB7' := hB6'.trans (hb7.mono hB6'.size)
  have hz7' : w6.heap.size ≤ w7.heap.size := hb7.size
  have ot7_0_n := Row2.born ho0_7
  clear ho0_7
  go_wp2_with fail
  refine (eqIntS_same A'4 c'4 A'7 c'7 (l0) _ ot4_0_7'.rd ot7_0_n.rd).mono ?_
  rintro e w8 ⟨rfl, hb8⟩
  have ot4_0_8' := Row2.below ot4_0_7' hb8 (by omega)
  clear ot4_0_7'
  have ot5_0_8' := Row2.below ot5_0_7' hb8 (by omega)
  clear ot5_0_7'
  have ot7_0_8' := Row2.below ot7_0_n hb8 (by omega)
  clear ot7_0_n
  have hB8' := hB7'.trans (hb8.mono hB7'.size)
  have hz8' : w7.heap.size ≤ w8.heap.size := hb8.size
  go_wp2_with fail
  refine (toIntS_any A1 c1 l1 _ (Rd.later h1_0 hB8') hs1).mono ?_
  rintro e w9 ⟨A'9, c'9, rfl, ho0_9, hb9⟩
  have ot4_0_9' := Row2.below ot4_0_8' hb9 (by omega)
  clear ot4_0_8'
  have ot5_0_9' := Row2.below ot5_0_8' hb9 (by omega)
  clear ot5_0_8'
  have hB9' := hB8'.trans (hb9.mono hB8'.size)
  have hz9' : w8.heap.size ≤ w9.heap.size := hb9.size
  have ot9_0_n := Row2.born ho0_9
  clear ho0_9
  go_wp2_with fail
  refine (eqIntS_same A'5 c'5 A'9 c'9 (l1) _ ot5_0_9'.rd ot9_0_n.rd).mono ?_
  rintro e w10 ⟨rfl, hb10⟩
  have ot4_0_10' := Row2.below ot4_0_9' hb10 (by omega)
  clear ot4_0_9'
  have ot5_0_10' := Row2.below ot5_0_9' hb10 (by omega)
  clear ot5_0_9'
  have ot9_0_10' := Row2.below ot9_0_n hb10 (by omega)
  clear ot9_0_n
  have hB10' := hB9'.trans (hb10.mono hB9'.size)
  have hz10' : w9.heap.size ≤ w10.heap.size := hb10.size
  go_wp2_with fail
  go_ret
  exact ⟨rfl, hB10'⟩
set_option maxRecDepth 100000 in
theorem lifted_FnExactSwapSaves (os : Os) (started : os.Started) (H : Type) (enc : TypeId × Value → H) :
    ReturnsInHanded {} Try.checked os 11 .any (Rows.fnExactSwapSavesSpec.pre6 enc Try.prog Try.f11 Rows.fnExactSwapSavesRow.domain false) (Rows.fnExactSwapSavesSpec.post enc Try.prog Try.f11 false true false false) := by
  refine returnsInHanded_of_change (C := Try.checked) own_knob started (by kernel_rfl) Try.func11
    (ChangeSpec.witness6 (enc := enc) (C := Try.checked) false ⟨#[], #[.slice none 0 0, .slice none 0 0, .int .i64 0], []⟩ 8 (by kernel_rfl) (by kernel_rfl) (by kernel_rfl) (by kernel_rfl)) ?_
  intro W base args ds gs before hval0 hW hcnd _
  have hval : ∀ (j : Nat) t v, Try.f11.params[j]? = some t → args[j]? = some v → Value.okWide Try.prog W .any base t v := hval0
  have hW' := hW
  obtain ⟨p, q, hA0, hV, rfl, hfz, hnd⟩ := hW
  have hA : DataW.TrodAll enc Try.prog W 0 (fun _ => true) true Try.f11.params.toList args.toList ds p := hA0
  rw [Try.params11] at hA hval
  obtain ⟨v0, vs0, d0, ds0, p0, q0, hargs, rfl, rfl, h0, r0⟩ := trodAll_cons hA
  obtain ⟨v1, vs1, d1, ds1, p1, q1, rfl, rfl, rfl, h1, r1⟩ := trodAll_cons r0
  obtain ⟨v2, vs2, d2, ds2, p2, q2, rfl, rfl, rfl, h2, r2⟩ := trodAll_cons r1
  obtain ⟨rfl, rfl, rfl⟩ := trodAll_nil r2
  obtain rfl : args = #[v0, v1, v2] := by cases args; simp_all
  obtain ⟨rfl, rfl⟩ := trodVars_none hV
  obtain ⟨A0, c0, l0, rfl, hr0⟩ := arg_ints (hval 0 22 v0 rfl rfl) h0
  have lt0 : ∀ x ∈ p0, x.block < W.heap.size := by obtain ⟨m, hm⟩ := h0; exact DataW.trod_lt m _ _ _ hm
  obtain ⟨A1, c1, l1, rfl, hr1⟩ := arg_ints (hval 1 22 v1 rfl rfl) h1
  have lt1 : ∀ x ∈ p1, x.block < W.heap.size := by obtain ⟨m, hm⟩ := h1; exact DataW.trod_lt m _ _ _ hm
  obtain ⟨a2, rfl, hi2⟩ := arg_int (hval 2 3 v2 rfl rfl) h2
  have lt2 : ∀ x ∈ p2, x.block < W.heap.size := by obtain ⟨m, hm⟩ := h2; exact DataW.trod_lt m _ _ _ hm
  clear hA0 hval0
  refine (walk_FnExactSwapSaves W A0 c0 l0 hr0 A1 c1 l1 hr1 a2 hi2).mono fun e W' ⟨he, bel⟩ => ?_
  subst he
  exact ⟨_, rfl, _, _, _, [], _, [], hW', trodAll_mk1 (shut_bool Try.underlying4 _), (trodAll_cons_mk (Below.trod laid_out (by kernel_rfl) (of_decide_eq_true (by kernel_rfl)) h0 bel lt0) (trodAll_cons_mk (Below.trod laid_out (by kernel_rfl) (of_decide_eq_true (by kernel_rfl)) h1 bel lt1) (trodAll_cons_mk (Below.trod laid_out (by kernel_rfl) (of_decide_eq_true (by kernel_rfl)) h2 bel lt2) trodAll_mk0))), rfl, bel.frame _, fun h => by cases h⟩

theorem fnExactSwapSaves_holds : Rows.FnExactSwapSavesSaid :=
  OpenClaim.holds_of_wide 11 Try.f11 rfl rfl rfl rfl rfl rfl rfl ⟨rfl, rfl, rfl, rfl, rfl⟩ rfl rfl rfl rfl rfl (by kernel_rfl) Try.func11 (by kernel_rfl)
    (of_decide_eq_true (by kernel_rfl)) (by unfold Func.isWrapper; rw [if_neg (by decide +kernel)]; exact ⟨rfl, rfl⟩)
    (fun os started H enc _ => lifted_FnExactSwapSaves os started H enc)
end Go.Proofs.Ytimjnliajnknbaa
