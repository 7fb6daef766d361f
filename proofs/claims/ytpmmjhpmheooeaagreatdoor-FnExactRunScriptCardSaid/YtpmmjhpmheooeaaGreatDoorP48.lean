/- The law FnExactRunScript answers true for every text. No conditions. -/
import Derived.Test.YtpmmjhpmheooeaaGreatDoorP46
import Derived.Test.YtpmmjhpmheooeaaGreatDoorP47
import Derived.Test.YtpmmjhpmheooeaaGreatDoorP34
import Derived.Test.YtpmmjhpmheooeaaGreatDoorTie
import Derived.Test.YtpmmjhpmheooeaaGreatDoorCards
import Derived.SevenTiedAt
import Derived.LaidMore
import Derived.Lay
import Derived.OpenShut
import Derived.Stop.Joined
import Derived.Stop.LaidErr
import Derived.ProofKit
import Derived.LaidLaws
import Derived.Lib.LaidTab
namespace Go.Proofs.YtpmmjhpmheooeaaGreatDoor
set_option linter.unusedSimpArgs false
set_option linter.unusedVariables false
section
open Go.ChangeShapes Go.WideShapes Go.ChangeAt Go.RowKit
set_option maxRecDepth 20000
set_option maxHeartbeats 1600000 in
theorem walk_FnExactRunScript (w : World) (ht : Tab w) (hm : MaxLen w) (s0 : List UInt8) (h0_0 : s0.length ≤ 9223372036854775807) :
  Calls Tryz.prog 3 #[(sv s0)] w fun e w' => e = .returned (.bool true) ∧ Below w.heap.size w w' := by
 by_cases hbig0 : (1048576 : Int) < s0.length
 ·go_enter Tryz.func3, Tryz.ntmps3
  go_wp2
  go_ret
  exact ⟨rfl, by first | exact Below.refl _ _ | repeat' (first | (with_reducible exact Below.refl _ _) | (with_reducible assumption) | (with_reducible refine Below.alloc ?_ ?_ _) | (with_reducible refine Below.setCell ?_ ?_ _) | (with_reducible refine Below.drew ?_) | (with_reducible refine below_drewN ?_ _) | (refine Below.trans ?_ (Below.mono (by with_reducible assumption) ?_)) | omega | (simp; done) | (simp; omega))⟩
 have hs0 : s0.length ≤ 1048576 := by omega
 obtain ⟨r1, hr_1⟩ : ∃ r, r = (rcI s0) := ⟨_, rfl⟩
 have HR1 := Lib.hid hr_1; clear hr_1
 have hq1 : (r1 != r1) = false := by simp
 have hsl := rcX_len s0
 have hB0 : Below w.heap.size w w := Below.refl _ _
 go_enter Tryz.func3, Tryz.ntmps3
 go_wp2_with fail
 refine (RunScriptS_any s0 _  (ht.below hB0) hs0).mono ?_
 rintro e w1 ⟨Ar0_1, cr0_1, rfl, ho0_1, hb1⟩
 have hB1' := hB0.trans (hb1.mono hB0.size)
 have hz1' : w.heap.size ≤ w1.heap.size := hb1.size
 rw [← HR1.out]
 have ow0_1_0_n := Row2.born ho0_1
 clear ho0_1
 go_wp2_with fail
 refine (RunScript_any s0 _  (ht.below hB1') (hm.below hB1') hs0).mono ?_
 rintro e w2 ⟨Ar0_2, cr0_2, rfl, ho0_2, hb2⟩
 have ow0_1_0_2' := Row2.below ow0_1_0_n hb2 (by omega)
 have hB2' := hB1'.trans (hb2.mono hB1'.size)
 have hz2' : w1.heap.size ≤ w2.heap.size := hb2.size
 clear ow0_1_0_n
 rw [← HR1.out]
 have og0_2_0_n := Row2.born ho0_2
 clear ho0_2
 go_wp2_with fail
 refine (eqStringS_same Ar0_2 cr0_2 Ar0_1 cr0_1 ((rcX s0)) _ og0_2_0_n.rd ow0_1_0_2'.rd).mono ?_
 rintro e w3 ⟨rfl, hb3⟩
 have ow0_1_0_3' := Row2.below ow0_1_0_2' hb3 (by omega)
 have og0_2_0_3' := Row2.below og0_2_0_n hb3 (by omega)
 have hB3' := hB2'.trans (hb3.mono hB2'.size)
 have hz3' : w2.heap.size ≤ w3.heap.size := hb3.size
 clear ow0_1_0_2' og0_2_0_n
 go_wp2_with fail
 refine (markStringS_2 Ar0_2 cr0_2 _ _ ((rcX s0)) (1) _ (by omega) _ og0_2_0_3' (by exact oT) (by exact oT)).mono ?_
 rintro e w4 ⟨rfl, hm0_4, hc4⟩
 have ow0_1_0_4' := Row2.chg ow0_1_0_3' hc4 (by omega)
 have hB4' := Chg.below hB3' hc4 (by omega) hB3'.size
 have hz4' : w3.heap.size ≤ w4.heap.size := hc4.size
 clear ow0_1_0_3' og0_2_0_3'
 go_wp2_with fail
 refine (heldStringS_2 Ar0_2 cr0_2 _ _ ((rcX s0).length) (1) _ (by omega) _ hm0_4 (by exact oT) (by exact oT)).mono ?_
 rintro e w5 ⟨rfl, hb5⟩
 have ow0_1_0_5' := Row2.below ow0_1_0_4' hb5 (by omega)
 have og0_2_0_5' := Row2.below hm0_4 hb5 (by omega)
 have hB5' := hB4'.trans (hb5.mono hB4'.size)
 have hz5' : w4.heap.size ≤ w5.heap.size := hb5.size
 clear ow0_1_0_4' hm0_4
 go_wp2_with fail
 refine (RunScript_any s0 _  (ht.below hB5') (hm.below hB5') hs0).mono ?_
 rintro e w6 ⟨Ar0_6, cr0_6, rfl, ho0_6, hb6⟩
 have ow0_1_0_6' := Row2.below ow0_1_0_5' hb6 (by omega)
 have og0_2_0_6' := Row2.below og0_2_0_5' hb6 (by omega)
 have hB6' := hB5'.trans (hb6.mono hB5'.size)
 have hz6' : w5.heap.size ≤ w6.heap.size := hb6.size
 clear ow0_1_0_5' og0_2_0_5'
 rw [← HR1.out]
 have oh0_6_0_n := Row2.born ho0_6
 clear ho0_6
 go_wp2_with fail
 refine (eqStringS_same Ar0_6 cr0_6 Ar0_1 cr0_1 ((rcX s0)) _ oh0_6_0_n.rd ow0_1_0_6'.rd).mono ?_
 rintro e w7 ⟨rfl, hb7⟩
 have ow0_1_0_7' := Row2.below ow0_1_0_6' hb7 (by omega)
 have og0_2_0_7' := Row2.below og0_2_0_6' hb7 (by omega)
 have oh0_6_0_7' := Row2.below oh0_6_0_n hb7 (by omega)
 have hB7' := hB6'.trans (hb7.mono hB6'.size)
 have hz7' : w6.heap.size ≤ w7.heap.size := hb7.size
 clear ow0_1_0_6' og0_2_0_6' oh0_6_0_n
 go_wp2_with fail
 refine (heldStringS_2 Ar0_2 cr0_2 _ _ ((rcX s0).length) (1) _ (by omega) _ og0_2_0_7' (by exact oT) (by exact oT)).mono ?_
 rintro e w8 ⟨rfl, hb8⟩
 have ow0_1_0_8' := Row2.below ow0_1_0_7' hb8 (by omega)
 have og0_2_0_8' := Row2.below og0_2_0_7' hb8 (by omega)
 have oh0_6_0_8' := Row2.below oh0_6_0_7' hb8 (by omega)
 have hB8' := hB7'.trans (hb8.mono hB7'.size)
 have hz8' : w7.heap.size ≤ w8.heap.size := hb8.size
 clear ow0_1_0_7' og0_2_0_7' oh0_6_0_7'
 go_wp2_with fail
 go_ret
 exact ⟨rfl, hB8'⟩
theorem tab_of_FnExactRunScript {W : World} (h : laidMetH Tryz.prog [("math/bits.deBruijn32tab", Rows.laid_math_bits_deBruijn32tab), ("math/bits.deBruijn64tab", Rows.laid_math_bits_deBruijn64tab), ("internal/strconv.uint64pow10", Rows.laid_internal_strconv_uint64pow10), ("unicode/utf8.acceptRanges", Rows.laid_unicode_utf8_acceptRanges), ("unicode/utf8.first", Rows.laid_unicode_utf8_first)] W) : Tab W := by
 rw [MakeChecks.laidMetH_plain _ _ _ (by kernel_rfl)] at h
 exact Lib.tabIs_of_head (g := 1) (t := 158) (e := 147) (n := 20) (by kernel_rfl) (by kernel_rfl) Tryz.underlying158 Tryz.underlying147 (by kernel_rfl) (by kernel_rfl) ((h).tail).tail
theorem door_met_FnExactRunScript (os : Os) (args : Array Value) : laidMetH Tryz.prog [("math/bits.deBruijn32tab", Rows.laid_math_bits_deBruijn32tab), ("math/bits.deBruijn64tab", Rows.laid_math_bits_deBruijn64tab), ("internal/strconv.uint64pow10", Rows.laid_internal_strconv_uint64pow10), ("unicode/utf8.acceptRanges", Rows.laid_unicode_utf8_acceptRanges), ("unicode/utf8.first", Rows.laid_unicode_utf8_first)] ((World.laidAll Tryz.prog os [("math/bits.deBruijn32tab", Rows.laid_math_bits_deBruijn32tab), ("math/bits.deBruijn64tab", Rows.laid_math_bits_deBruijn64tab), ("internal/strconv.uint64pow10", Rows.laid_internal_strconv_uint64pow10), ("unicode/utf8.acceptRanges", Rows.laid_unicode_utf8_acceptRanges), ("unicode/utf8.first", Rows.laid_unicode_utf8_first)]).forCall (fun _ _ => 0) ⟨#[], args, []⟩).memory :=
 by
 rw [MakeChecks.laidMetH_plain _ _ _ (by kernel_rfl)]
 exact laidMet_laidAll _ (by kernel_rfl) (by kernel_rfl)
set_option maxRecDepth 100000 in
theorem lifted_FnExactRunScript (os : Os) (started : os.Started) (H : Type) (enc : TypeId × Value → H) :
  ReturnsInHanded {} Tryz.checked os 3 .any (fun w args => (Rows.fnExactRunScriptSpec.pre enc Tryz.prog Tryz.f3 [] false w args ∧ laidMetH Tryz.prog [("math/bits.deBruijn32tab", Rows.laid_math_bits_deBruijn32tab), ("math/bits.deBruijn64tab", Rows.laid_math_bits_deBruijn64tab), ("internal/strconv.uint64pow10", Rows.laid_internal_strconv_uint64pow10), ("unicode/utf8.acceptRanges", Rows.laid_unicode_utf8_acceptRanges), ("unicode/utf8.first", Rows.laid_unicode_utf8_first)] w) ∧ sizedMet enc Tryz.prog Tryz.f3 (OpenSpec.ofChange Rows.fnExactRunScriptSpec) false w args) (Rows.fnExactRunScriptSpec.post enc Tryz.prog Tryz.f3 false true false false) := by
 refine wrap_shaped (C := Tryz.checked) (X := fun w => laidMetH Tryz.prog [("math/bits.deBruijn32tab", Rows.laid_math_bits_deBruijn32tab), ("math/bits.deBruijn64tab", Rows.laid_math_bits_deBruijn64tab), ("internal/strconv.uint64pow10", Rows.laid_internal_strconv_uint64pow10), ("unicode/utf8.acceptRanges", Rows.laid_unicode_utf8_acceptRanges), ("unicode/utf8.first", Rows.laid_unicode_utf8_first)] w) (fun _ _ hh h => h.of_heap hh) own_knob started (by kernel_rfl) Tryz.func3
  (ChangeSpec.witness_shaped (enc := enc) (C := Tryz.checked) (os := os) (X := fun w _ => laidMetH Tryz.prog [("math/bits.deBruijn32tab", Rows.laid_math_bits_deBruijn32tab), ("math/bits.deBruijn64tab", Rows.laid_math_bits_deBruijn64tab), ("internal/strconv.uint64pow10", Rows.laid_internal_strconv_uint64pow10), ("unicode/utf8.acceptRanges", Rows.laid_unicode_utf8_acceptRanges), ("unicode/utf8.first", Rows.laid_unicode_utf8_first)] w) false (World.laidAll Tryz.prog os [("math/bits.deBruijn32tab", Rows.laid_math_bits_deBruijn32tab), ("math/bits.deBruijn64tab", Rows.laid_math_bits_deBruijn64tab), ("internal/strconv.uint64pow10", Rows.laid_internal_strconv_uint64pow10), ("unicode/utf8.acceptRanges", Rows.laid_unicode_utf8_acceptRanges), ("unicode/utf8.first", Rows.laid_unicode_utf8_first)]) #[.string ⟨#[]⟩] 8 (World.laidAll_os _ _ _) (World.shaped_of_ZipB (by kernel_rfl) (by kernel_rfl)) (by kernel_rfl) (by kernel_rfl) (by kernel_rfl) (door_met_FnExactRunScript os _)) ?_
 intro W base args ds gs before hval0 hW hL hsh
 have ht := tab_of_FnExactRunScript hL
 have hm : MaxLen W := cell_of_shapedOpen_int (P := Tryz.prog) (g := 0) (t := 3) (zero := #[.int .i64 0]) hsh (of_decide_eq_true (by kernel_rfl)) (by kernel_rfl) rfl (by kernel_rfl) (by kernel_rfl) Tryz.underlying3
 have hval : ∀ (j : Nat) t v, Tryz.f3.params[j]? = some t → args[j]? = some v → Value.okWide Tryz.prog W .any base t v := hval0
 have hW' := hW
 obtain ⟨p, q, hA0, hV, rfl, hfz, hnd⟩ := hW
 have hA : DataW.TrodAll enc Tryz.prog W 0 (fun _ => true) true Tryz.f3.params.toList args.toList ds p := hA0
 rw [Tryz.params3] at hA hval
 obtain ⟨v0, vs0, d0, ds0, p0, q0, hargs, rfl, rfl, h0, r0⟩ := trodAll_cons hA
 obtain ⟨rfl, rfl, rfl⟩ := trodAll_nil r0
 obtain rfl : args = #[v0] := by cases args; simp_all
 obtain ⟨rfl, rfl⟩ := trodVars_none hV
 obtain ⟨s0, rfl, hs0⟩ := arg_string (hval 0 9 v0 rfl rfl) h0
 have lt0 : ∀ x ∈ p0, x.block < W.heap.size := by obtain ⟨m, hm⟩ := h0; exact DataW.trod_lt m _ _ _ hm
 clear hA0 hval0
 refine (walk_FnExactRunScript W ht hm s0 hs0).mono fun e W' ⟨he, bel⟩ => ?_
 subst he
 exact ⟨_, rfl, _, _, _, [], _, [], hW', trodAll_mk1 (shut_bool Tryz.underlying4 _), (trodAll_cons_mk (Below.trod laid_out (by kernel_rfl) (of_decide_eq_true (by kernel_rfl)) h0 bel lt0) trodAll_mk0), rfl, bel.frame _, fun h => by cases h⟩

theorem fnExactRunScript_row : Rows.FnExactRunScriptSaid :=
 OpenClaim.holds_of_wide 3 Tryz.f3 rfl rfl rfl rfl rfl rfl rfl ⟨rfl, rfl, rfl, rfl, rfl⟩ rfl rfl rfl rfl rfl (by kernel_rfl) Tryz.func3 (by kernel_rfl)
  (of_decide_eq_true (by kernel_rfl)) (by unfold Func.isWrapper; rw [if_neg (by decide +kernel)]; exact ⟨rfl, rfl⟩)
  (fun os started H enc _ => lifted_FnExactRunScript os started H enc)

theorem fnExactRunScript_holds : Rows.FnExactRunScriptCardSaid :=
 Claim7.holds_tied_plain_at .later [] [.data, .data, .data, .data, .pinned] true (true, "0dd05cc1e6977aca7bd5b1880339633280beee239cbde02fd64f7edbc905c742") false
  fnExactRunScript_row (fun _ h => by cases h) (by kernel_rfl) (fun _ h => by cases h) fnExactRunScript_row_tie rfl ⟨rfl, rfl⟩ (by kernel_rfl) rfl
  (fun f fn hf hfn => by
   obtain rfl : f = 3 := Option.some.inj ((show Tryz.prog.funcNamed "loop.example/g03307/laws.FnExactRunScript" = some 3 by kernel_rfl).symm.trans hf) |>.symm
   obtain rfl : fn = Tryz.f3 := (Option.some.inj (Tryz.func3.symm.trans hfn)).symm
   exact ⟨by kernel_rfl, fun j t ht => by
    rw [Tryz.params3] at ht
    have hm : t ∈ [9] := by simpa using Array.mem_of_getElem? ht
    have hall : ([9].all fun u => !Tryz.prog.wantsStandIn u) = true := by kernel_rfl
    exact (show Tryz.prog.wantsStandIn t = false by simpa using List.all_eq_true.1 hall t hm)⟩)
  (by kernel_rfl)
end
end Go.Proofs.YtpmmjhpmheooeaaGreatDoor
