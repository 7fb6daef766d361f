/- The law FnExactSameRights answers true for all pairs of rights. No conditions. -/
import Derived.Test.YtfiffondfljkkaaSame
import Derived.Test.YtfiffondfljkkaaTo3R
import Derived.Test.YtfiffondfljkkaaOpenRights
namespace Go.Proofs.Ytfiffondfljkkaa
open Go.ChangeShapes Go.WideShapes Go.ChangeAt Go.RowKit
set_option maxRecDepth 20000
set_option maxHeartbeats 1600000 in
theorem walk_FnExactSameRights (w : World) (A0 : Option Addr) (c0 : Nat) (l0 : List T3) (h0_0 : RdT w w.heap.size A0 c0 l0) (A1 : Option Addr) (c1 : Nat) (l1 : List T3) (h1_0 : RdT w w.heap.size A1 c1 l1) :
    Calls Try.prog 3 #[.slice A0 l0.length c0, .slice A1 l1.length c1] w fun e w' => e = .returned (.bool true) ∧ Below w.heap.size w w' := by
  by_cases hbig0 : (1048576 : Int) < l0.length
  · go_enter Try.func3, Try.ntmps3
    go_wp2_with fail
    refine (szRightS_big A0 c0 l0 _ _ (by omega) (by omega) (by have := h0_0.le; omega)).mono ?_
    rintro e w0' ⟨rfl, hb0'⟩
    go_wp2_with fail
    go_ret
    exact ⟨rfl, by repeat' (first | (with_reducible exact Below.refl _ _) | (with_reducible assumption) | (with_reducible refine Below.alloc ?_ ?_ _) | (with_reducible refine Below.setCell ?_ ?_ _) | (with_reducible refine Below.drew ?_) | (with_reducible refine below_drewN ?_ _) | (refine Below.trans ?_ (Below.mono (by with_reducible assumption) ?_)) | omega | (simp; done) | (simp; omega))⟩
  have hs0 : l0.length ≤ 1048576 := by omega
  by_cases hbig1 : (1048576 - l0.length : Int) < l1.length
  · go_enter Try.func3, Try.ntmps3
    go_wp2_with fail
    refine (szRightS_ok A0 c0 l0 _ _ (by omega) (by omega)).mono ?_
    rintro e w0' ⟨rfl, hb0'⟩
    have hsz0' := hb0'.size
    go_wp2_with fail
    refine (szRightS_big A1 c1 l1 _ _ (by omega) (by omega) (by have := h1_0.le; omega)).mono ?_
    rintro e w1' ⟨rfl, hb1'⟩
    go_wp2_with fail
    go_ret
    exact ⟨rfl, by repeat' (first | (with_reducible exact Below.refl _ _) | (with_reducible assumption) | (with_reducible refine Below.alloc ?_ ?_ _) | (with_reducible refine Below.setCell ?_ ?_ _) | (with_reducible refine Below.drew ?_) | (with_reducible refine below_drewN ?_ _) | (refine Below.trans ?_ (Below.mono (by with_reducible assumption) ?_)) | omega | (simp; done) | (simp; omega))⟩
  have hs1 : l1.length ≤ 1048576 := by omega
  obtain ⟨r0, hr_0⟩ : ∃ r, r = sameRights l0 l1 := ⟨_, rfl⟩
  have HR0 := Lib.hid hr_0; clear hr_0
  have hq0 : (r0 != r0) = false := by simp
  have hB0 : Below w.heap.size w w := Below.refl _ _
  go_enter Try.func3, Try.ntmps3
  go_wp2_with fail
  refine (szRightS_ok A0 c0 l0 _ _ (by omega) (by omega)).mono ?_
  rintro e w1 ⟨rfl, hb1⟩
  have hB1' := hB0.trans (hb1.mono hB0.size)
  have hz1' : w.heap.size ≤ w1.heap.size := hb1.size
  go_wp2_with fail
  refine (szRightS_ok A1 c1 l1 _ _ (by omega) (by omega)).mono ?_
  rintro e w2 ⟨rfl, hb2⟩
  have hB2' := hB1'.trans (hb2.mono hB1'.size)
  have hz2' : w1.heap.size ≤ w2.heap.size := hb2.size
  go_wp2_with fail
  refine (toRightS_any A0 c0 l0 _ (Rd.later h0_0 hB2') hs0).mono ?_
  rintro e w3 ⟨A'3, c'3, rfl, ho0_3, hb3⟩
  have hB3' := hB2'.trans (hb3.mono hB2'.size)
  have hz3' : w2.heap.size ≤ w3.heap.size := hb3.size
  have ot3_0_n := Row2.born ho0_3
  clear ho0_3
  go_wp2_with fail
  refine (toRightS_any A1 c1 l1 _ (Rd.later h1_0 hB3') hs1).mono ?_
  rintro e w4 ⟨A'4, c'4, rfl, ho0_4, hb4⟩
  have ot3_0_4' := Row2.below ot3_0_n hb4 (by omega)
  clear ot3_0_n
  have hB4' := hB3'.trans (hb4.mono hB3'.size)
  have hz4' : w3.heap.size ≤ w4.heap.size := hb4.size
  have ot4_0_n := Row2.born ho0_4
  clear ho0_4
  go_wp2_with fail
  refine (post_b (SameRightsS_any A'3 c'3 l0 A'4 c'4 l1 _ ot3_0_4'.rd ot4_0_n.rd)).mono ?_
  rintro e w5 ⟨rfl, hb5⟩
  have ot3_0_5' := Row2.below ot3_0_4' hb5 (by omega)
  clear ot3_0_4'
  have ot4_0_5' := Row2.below ot4_0_n hb5 (by omega)
  clear ot4_0_n
  have hB5' := hB4'.trans (hb5.mono hB4'.size)
  have hz5' : w4.heap.size ≤ w5.heap.size := hb5.size
  rw [← HR0.out]
  go_wp2_with fail
  refine (toRightS_any A0 c0 l0 _ (Rd.later h0_0 hB5') hs0).mono ?_
  rintro e w6 ⟨A'6, c'6, rfl, ho0_6, hb6⟩
  have hB6' := hB5'.trans (hb6.mono hB5'.size)
  have hz6' : w5.heap.size ≤ w6.heap.size := hb6.size
  have ot6_0_n := Row2.born ho0_6
  clear ho0_6
  go_wp2_with fail
  refine (toRightS_any A1 c1 l1 _ (Rd.later h1_0 hB6') hs1).mono ?_
  rintro e w7 ⟨A'7, c'7, rfl, ho0_7, hb7⟩
  have ot6_0_7' := Row2.below ot6_0_n hb7 (by omega)
  clear ot6_0_n
  have hB7' := hB6'.trans (hb7.mono hB6'.size)
  have hz7' : w6.heap.size ≤ w7.heap.size := hb7.size
  have ot7_0_n := Row2.born ho0_7
  clear ho0_7
  go_wp2_with fail
  refine (post_b (SameRights_any A'6 c'6 l0 A'7 c'7 l1 _ ot6_0_7'.rd ot7_0_n.rd)).mono ?_
  rintro e w8 ⟨rfl, hb8⟩
  have ot6_0_8' := Row2.below ot6_0_7' hb8 (by omega)
  clear ot6_0_7'
  have ot7_0_8' := Row2.below ot7_0_n hb8 (by omega)
  clear ot7_0_n
  have hB8' := hB7'.trans (hb8.mono hB7'.size)
  have hz8' : w7.heap.size ≤ w8.heap.size := hb8.size
  rw [← HR0.out]
  go_wp2_with fail
  refine (toRightS_any A0 c0 l0 _ (Rd.later h0_0 hB8') hs0).mono ?_
  rintro e w9 ⟨A'9, c'9, rfl, ho0_9, hb9⟩
  have ot6_0_9' := Row2.below ot6_0_8' hb9 (by omega)
  clear ot6_0_8'
  have ot7_0_9' := Row2.below ot7_0_8' hb9 (by omega)
  clear ot7_0_8'
  have hB9' := hB8'.trans (hb9.mono hB8'.size)
  have hz9' : w8.heap.size ≤ w9.heap.size := hb9.size
  have ot9_0_n := Row2.born ho0_9
  clear ho0_9
  go_wp2_with fail
  refine (eqRightS_same A'6 c'6 A'9 c'9 (l0) _ ot6_0_9'.rd ot9_0_n.rd).mono ?_
  rintro e w10 ⟨rfl, hb10⟩
  have ot6_0_10' := Row2.below ot6_0_9' hb10 (by omega)
  clear ot6_0_9'
  have ot7_0_10' := Row2.below ot7_0_9' hb10 (by omega)
  clear ot7_0_9'
  have ot9_0_10' := Row2.below ot9_0_n hb10 (by omega)
  clear ot9_0_n
  have hB10' := hB9'.trans (hb10.mono hB9'.size)
  have hz10' : w9.heap.size ≤ w10.heap.size := hb10.size
  go_wp2_with fail
  refine (toRightS_any A1 c1 l1 _ (Rd.later h1_0 hB10') hs1).mono ?_
  rintro e w11 ⟨A'11, c'11, rfl, ho0_11, hb11⟩
  have ot6_0_11' := Row2.below ot6_0_10' hb11 (by omega)
  clear ot6_0_10'
  have ot7_0_11' := Row2.below ot7_0_10' hb11 (by omega)
  clear ot7_0_10'
  have hB11' := hB10'.trans (hb11.mono hB10'.size)
  have hz11' : w10.heap.size ≤ w11.heap.size := hb11.size
  have ot11_0_n := Row2.born ho0_11
  clear ho0_11
  go_wp2_with fail
  refine (eqRightS_same A'7 c'7 A'11 c'11 (l1) _ ot7_0_11'.rd ot11_0_n.rd).mono ?_
  rintro e w12 ⟨rfl, hb12⟩
  have ot6_0_12' := Row2.below ot6_0_11' hb12 (by omega)
  clear ot6_0_11'
  have ot7_0_12' := Row2.below ot7_0_11' hb12 (by omega)
  clear ot7_0_11'
  have ot11_0_12' := Row2.below ot11_0_n hb12 (by omega)
  clear ot11_0_n
  have hB12' := hB11'.trans (hb12.mono hB11'.size)
  have hz12' : w11.heap.size ≤ w12.heap.size := hb12.size
  go_wp2_with fail
  go_ret
  exact ⟨rfl, hB12'⟩
set_option maxRecDepth 100000 in
theorem lifted_FnExactSameRights (os : Os) (started : os.Started) (H : Type) (enc : TypeId × Value → H) :
    ReturnsInHanded {} Try.checked os 3 .any (Rows.fnExactSameRightsSpec.pre6 enc Try.prog Try.f3 Rows.fnExactSameRightsRow.domain false) (Rows.fnExactSameRightsSpec.post enc Try.prog Try.f3 false true false false) := by
  refine returnsInHanded_of_change (C := Try.checked) own_knob started (by kernel_rfl) Try.func3
    (ChangeSpec.witness6 (enc := enc) (C := Try.checked) false ⟨#[], #[.slice none 0 0, .slice none 0 0], []⟩ 8 (by kernel_rfl) (by kernel_rfl) (by kernel_rfl) (by kernel_rfl)) ?_
  intro W base args ds gs before hval0 hW hcnd _
  have hval : ∀ (j : Nat) t v, Try.f3.params[j]? = some t → args[j]? = some v → Value.okWide Try.prog W .any base t v := hval0
  have hW' := hW
  obtain ⟨p, q, hA0, hV, rfl, hfz, hnd⟩ := hW
  have hA : DataW.TrodAll enc Try.prog W 0 (fun _ => true) true Try.f3.params.toList args.toList ds p := hA0
  rw [Try.params3] at hA hval
  obtain ⟨v0, vs0, d0, ds0, p0, q0, hargs, rfl, rfl, h0, r0⟩ := trodAll_cons hA
  obtain ⟨v1, vs1, d1, ds1, p1, q1, rfl, rfl, rfl, h1, r1⟩ := trodAll_cons r0
  obtain ⟨rfl, rfl, rfl⟩ := trodAll_nil r1
  obtain rfl : args = #[v0, v1] := by cases args; simp_all
  obtain ⟨rfl, rfl⟩ := trodVars_none hV
  obtain ⟨A0, c0, l0, rfl, hr0⟩ := arg_rights (hval 0 22 v0 rfl rfl) h0
  have lt0 : ∀ x ∈ p0, x.block < W.heap.size := by obtain ⟨m, hm⟩ := h0; exact DataW.trod_lt m _ _ _ hm
  obtain ⟨A1, c1, l1, rfl, hr1⟩ := arg_rights (hval 1 22 v1 rfl rfl) h1
  have lt1 : ∀ x ∈ p1, x.block < W.heap.size := by obtain ⟨m, hm⟩ := h1; exact DataW.trod_lt m _ _ _ hm
  clear hA0 hval0
  refine (walk_FnExactSameRights W A0 c0 l0 hr0 A1 c1 l1 hr1).mono fun e W' ⟨he, bel⟩ => ?_
  subst he
  exact ⟨_, rfl, _, _, _, [], _, [], hW', trodAll_mk1 (shut_bool Try.underlying4 _), (trodAll_cons_mk (Below.trod laid_out (by kernel_rfl) (of_decide_eq_true (by kernel_rfl)) h0 bel lt0) (trodAll_cons_mk (Below.trod laid_out (by kernel_rfl) (of_decide_eq_true (by kernel_rfl)) h1 bel lt1) trodAll_mk0)), rfl, bel.frame _, fun h => by cases h⟩

theorem fnExactSameRights_holds : Rows.FnExactSameRightsSaid :=
  OpenClaim.holds_of_wide 3 Try.f3 rfl rfl rfl rfl rfl rfl rfl ⟨rfl, rfl, rfl, rfl, rfl⟩ rfl rfl rfl rfl rfl (by kernel_rfl) Try.func3 (by kernel_rfl)
    (of_decide_eq_true (by kernel_rfl)) (by unfold Func.isWrapper; rw [if_neg (by decide +kernel)]; exact ⟨rfl, rfl⟩)
    (fun os started H enc _ => lifted_FnExactSameRights os started H enc)
end Go.Proofs.Ytfiffondfljkkaa
