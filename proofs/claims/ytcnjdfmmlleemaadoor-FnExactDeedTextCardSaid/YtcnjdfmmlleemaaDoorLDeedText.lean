/- The law FnExactDeedText answers true for every slice of rights. No conditions. -/
import Derived.Test.YtcnjdfmmlleemaaDoorDeed
import Derived.Test.YtcnjdfmmlleemaaDoorTo3R
import Derived.Test.YtcnjdfmmlleemaaDoorOpen
import Derived.Test.YtcnjdfmmlleemaaDoorOpenRights
import Derived.Test.YtcnjdfmmlleemaaDoorTie
import Derived.Test.YtcnjdfmmlleemaaDoorCards
import Derived.SevenTiedAt
import Derived.LaidMore
import Derived.OpenShut
import Derived.Stop.Joined
import Derived.Stop.LaidErr
import Derived.ProofKit
import Derived.LaidLaws
import Derived.Lib.LaidTab
namespace Go.Proofs.YtcnjdfmmlleemaaDoor
open Go.ChangeShapes Go.WideShapes Go.ChangeAt Go.RowKit
set_option maxRecDepth 20000
set_option maxHeartbeats 1600000 in
theorem walk_FnExactDeedText (w : World) (ht : Tab w) (A : Option Addr) (c : Nat) (l : List T3) (h : RdT w w.heap.size A c l) :
    Calls Tryd.prog 3 #[.slice A l.length c] w fun e w' => e = .returned (.bool true) ∧ Below w.heap.size w w' := by
  obtain ⟨hl, hm⟩ := h.le
  have hB := Below.refl w.heap.size w
  by_cases hbig : (1048576 : Int) < l.length
  · go_enter Tryd.func3, Tryd.ntmps3
    go_wp2_with fail
    refine (szRightS_big A c l _ _ (by omega) (by omega) (by omega)).mono ?_
    rintro e w1 ⟨rfl, hb⟩
    replace hB := hB.trans (Below.mono hb hB.size)
    have hz_w1 : w.heap.size ≤ w1.heap.size := Below.size hb
    clear hb
    go_wp2_with fail
    go_ret
    exact ⟨rfl, hB⟩
  have hs : l.length ≤ 1048576 := by omega
  have d0 : ¬ (1048576 - (l.length : Int)) < 0 := by omega
  go_enter Tryd.func3, Tryd.ntmps3
  go_wp2_with fail
  refine (szRightS_ok A c l _ _ (by omega) (by omega)).mono ?_
  rintro e w1 ⟨rfl, hb⟩
  replace hB := hB.trans (Below.mono hb hB.size)
  have hz_w1 : w.heap.size ≤ w1.heap.size := Below.size hb
  clear hb
  go_wp2_with fail
  refine (toRightS_any A c l _ (Rd.later h hB) hs).mono ?_
  rintro e w2 ⟨A2, c2, rfl, ho2, hb⟩
  replace hB := hB.trans (Below.mono hb hB.size)
  have hz_w2 : w1.heap.size ≤ w2.heap.size := Below.size hb
  clear hb
  go_wp2_with fail
  obtain ⟨tx, htx⟩ : ∃ tx, tx = deedText l := ⟨_, rfl⟩
  refine (DeedTextS_any A2 c2 l _ (Rd.of_own ho2) (ht.below hB)).mono ?_
  rw [← htx]
  rintro e w3 ⟨rfl, hb⟩
  replace hB := hB.trans (Below.mono hb hB.size)
  have hz_w3 : w2.heap.size ≤ w3.heap.size := Below.size hb
  clear hb
  go_wp2_with fail
  refine (toRightS_any A c l _ (Rd.later h hB) hs).mono ?_
  rintro e w4 ⟨A4, c4, rfl, ho4, hb⟩
  replace hB := hB.trans (Below.mono hb hB.size)
  have hz_w4 : w3.heap.size ≤ w4.heap.size := Below.size hb
  clear hb
  go_wp2_with fail
  refine (DeedText_any A4 c4 l _ (Rd.of_own ho4) (ht.below hB)).mono ?_
  rw [← htx]
  rintro e w5 ⟨rfl, hb⟩
  have ho5 := own_below ho4 hb (Nat.le_refl _)
  replace hB := hB.trans (Below.mono hb hB.size)
  have hz_w5 : w4.heap.size ≤ w5.heap.size := Below.size hb
  clear hb
  clear htx
  go_wp2_with fail
  refine (toRightS_any A c l _ (Rd.later h hB) hs).mono ?_
  rintro e w6 ⟨A6, c6, rfl, ho6, hb⟩
  have ho6' := own_below ho5 hb (Nat.le_refl _)
  replace hB := hB.trans (Below.mono hb hB.size)
  have hz_w6 : w5.heap.size ≤ w6.heap.size := Below.size hb
  clear hb
  go_wp2_with fail
  refine (eqRightS_same A4 c4 A6 c6 l _ (Rd.of_own ho6') (Rd.of_own ho6)).mono ?_
  rintro e w7 ⟨rfl, hb⟩
  replace hB := hB.trans (Below.mono hb hB.size)
  have hz_w7 : w6.heap.size ≤ w7.heap.size := Below.size hb
  clear hb
  go_wp2_with fail
  go_ret
  exact ⟨rfl, hB⟩
theorem tab_of_FnExactDeedText {W : World} (h : laidMetH Tryd.prog [("math/bits.deBruijn32tab", Rows.laid_math_bits_deBruijn32tab), ("math/bits.deBruijn64tab", Rows.laid_math_bits_deBruijn64tab), ("internal/strconv.uint64pow10", Rows.laid_internal_strconv_uint64pow10)] W) : Tab W := by
  rw [MakeChecks.laidMetH_plain _ _ _ (by kernel_rfl)] at h
  exact Lib.tabIs_of_head (g := 3) (t := 184) (e := 173) (n := 20) (by kernel_rfl) (by kernel_rfl) Tryd.underlying184 Tryd.underlying173 (by kernel_rfl) (by kernel_rfl) ((h).tail).tail
theorem door_met_FnExactDeedText (os : Os) (args : Array Value) : laidMetH Tryd.prog [("math/bits.deBruijn32tab", Rows.laid_math_bits_deBruijn32tab), ("math/bits.deBruijn64tab", Rows.laid_math_bits_deBruijn64tab), ("internal/strconv.uint64pow10", Rows.laid_internal_strconv_uint64pow10)] ((World.doorLaid Tryd.prog 24 os).forCall (fun _ _ => 0) ⟨#[], args, []⟩).memory :=
  laidMetH_of_parts3 (fuel := 8) (laidMet_of_run' 8 (by kernel_rfl) (by kernel_rfl)) (by kernel_rfl) (by kernel_rfl)
set_option maxRecDepth 100000 in
theorem lifted_FnExactDeedText (os : Os) (started : os.Started) (H : Type) (enc : TypeId × Value → H) :
    ReturnsInHanded {} Tryd.checked os 3 .any (fun w args => (Rows.fnExactDeedTextSpec.pre enc Tryd.prog Tryd.f3 [] false w args ∧ laidMetH Tryd.prog [("math/bits.deBruijn32tab", Rows.laid_math_bits_deBruijn32tab), ("math/bits.deBruijn64tab", Rows.laid_math_bits_deBruijn64tab), ("internal/strconv.uint64pow10", Rows.laid_internal_strconv_uint64pow10)] w) ∧ sizedMet enc Tryd.prog Tryd.f3 (OpenSpec.ofChange Rows.fnExactDeedTextSpec) false w args) (Rows.fnExactDeedTextSpec.post enc Tryd.prog Tryd.f3 false true false false) := by
  refine returnsInHanded_of_change_and (C := Tryd.checked) (X := fun w _ => laidMetH Tryd.prog [("math/bits.deBruijn32tab", Rows.laid_math_bits_deBruijn32tab), ("math/bits.deBruijn64tab", Rows.laid_math_bits_deBruijn64tab), ("internal/strconv.uint64pow10", Rows.laid_internal_strconv_uint64pow10)] w) (fun _ _ _ hh h => h.of_heap hh) own_knob started (by kernel_rfl) Tryd.func3
    (ChangeSpec.witness_shaped (enc := enc) (C := Tryd.checked) (os := os) (X := fun w _ => laidMetH Tryd.prog [("math/bits.deBruijn32tab", Rows.laid_math_bits_deBruijn32tab), ("math/bits.deBruijn64tab", Rows.laid_math_bits_deBruijn64tab), ("internal/strconv.uint64pow10", Rows.laid_internal_strconv_uint64pow10)] w) false (World.doorLaid Tryd.prog 24 os) #[.slice none 0 0] 8 rfl (World.shaped_of_RefB (by kernel_rfl) (by kernel_rfl)) (by kernel_rfl) (by kernel_rfl) (by kernel_rfl) (door_met_FnExactDeedText os _)) ?_
  intro W base args ds gs before hval0 hW _ _ hL _
  have ht := tab_of_FnExactDeedText hL
  have hval : ∀ (j : Nat) t v, Tryd.f3.params[j]? = some t → args[j]? = some v → Value.okWide Tryd.prog W .any base t v := hval0
  have hW' := hW
  obtain ⟨p, q, hA0, hV, rfl, hfz, hnd⟩ := hW
  have hA : DataW.TrodAll enc Tryd.prog W 0 (fun _ => true) true Tryd.f3.params.toList args.toList ds p := hA0
  rw [Tryd.params3] at hA hval
  obtain ⟨v0, vs0, d0, ds0, p0, q0, hargs, rfl, rfl, h0, r0⟩ := trodAll_cons hA
  obtain ⟨rfl, rfl, rfl⟩ := trodAll_nil r0
  obtain rfl : args = #[v0] := by cases args; simp_all
  obtain ⟨rfl, rfl⟩ := trodVars_none hV
  obtain ⟨A0, c0, l0, rfl, hr0⟩ := arg_rights (hval 0 22 v0 rfl rfl) h0
  have lt0 : ∀ x ∈ p0, x.block < W.heap.size := by obtain ⟨m, hm⟩ := h0; exact DataW.trod_lt m _ _ _ hm
  clear hA0 hval0
  refine (walk_FnExactDeedText W ht A0 c0 l0 hr0).mono fun e W' ⟨he, bel⟩ => ?_
  subst he
  exact ⟨_, rfl, _, _, _, [], _, [], hW', trodAll_mk1 (shut_bool Tryd.underlying4 _), (trodAll_cons_mk (Below.trod laid_out (by kernel_rfl) (of_decide_eq_true (by kernel_rfl)) h0 bel lt0) trodAll_mk0), rfl, bel.frame _, fun h => by cases h⟩

theorem fnExactDeedText_row : Rows.FnExactDeedTextSaid :=
  OpenClaim.holds_of_wide 3 Tryd.f3 rfl rfl rfl rfl rfl rfl rfl ⟨rfl, rfl, rfl, rfl, rfl⟩ rfl rfl rfl rfl rfl (by kernel_rfl) Tryd.func3 (by kernel_rfl)
    (of_decide_eq_true (by kernel_rfl)) (by unfold Func.isWrapper; rw [if_neg (by decide +kernel)]; exact ⟨rfl, rfl⟩)
    (fun os started H enc _ => lifted_FnExactDeedText os started H enc)

theorem fnExactDeedText_holds : Rows.FnExactDeedTextCardSaid :=
  Claim7.holds_tied_plain_at .later [] [.data, .data, .data] true (true, "bb02af3d82c537a02e7b4924149ecb92dd689e925a6b2624e1a385cccb543ea7") false
    fnExactDeedText_row (fun _ h => by cases h) (by kernel_rfl) (fun _ h => by cases h) fnExactDeedText_row_tie rfl ⟨rfl, rfl⟩ (by kernel_rfl) rfl
    (fun f fn hf hfn => by
      obtain rfl : f = 3 := Option.some.inj ((show Tryd.prog.funcNamed "loop.example/g03307/laws.FnExactDeedText" = some 3 by kernel_rfl).symm.trans hf) |>.symm
      obtain rfl : fn = Tryd.f3 := (Option.some.inj (Tryd.func3.symm.trans hfn)).symm
      exact ⟨by kernel_rfl, fun j t ht => by
        rw [Tryd.params3] at ht
        have hm : t ∈ [22] := by simpa using Array.mem_of_getElem? ht
        have hall : ([22].all fun u => !Tryd.prog.wantsStandIn u) = true := by kernel_rfl
        exact (show Tryd.prog.wantsStandIn t = false by simpa using List.all_eq_true.1 hall t hm)⟩)
    (by kernel_rfl)
end Go.Proofs.YtcnjdfmmlleemaaDoor
