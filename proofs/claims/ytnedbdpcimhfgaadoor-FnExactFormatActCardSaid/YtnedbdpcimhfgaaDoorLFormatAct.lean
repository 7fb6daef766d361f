/- The law FnExactFormatAct answers true for every act. No conditions. -/
import Derived.Test.YtnedbdpcimhfgaaDoorFormatAct
import Derived.Test.YtnedbdpcimhfgaaDoorOpen
import Derived.Test.YtnedbdpcimhfgaaDoorTie
import Derived.Test.YtnedbdpcimhfgaaDoorCards
import Derived.SevenTiedAt
import Derived.LaidMore
import Derived.OpenShut
import Derived.Stop.Joined
import Derived.Stop.LaidErr
import Derived.ProofKit
import Derived.LaidLaws
import Derived.Lib.LaidTab
namespace Go.Proofs.YtnedbdpcimhfgaaDoor
open Go.ChangeShapes Go.WideShapes Go.ChangeAt Go.RowKit
set_option maxRecDepth 20000
set_option maxHeartbeats 1600000 in
theorem walk_FnExactFormatAct (w : World) (ht : Tab w) (x y z : Int) (hx : I64 x) (hy : I64 y) (hz : I64 z) :
    Calls Tryd.prog 4 #[.agg #[.int .i64 x, .int .i64 y, .int .i64 z]] w fun e w' => e = .returned (.bool true) ∧ Below w.heap.size w w' := by
  have hB := Below.refl w.heap.size w
  obtain ⟨tx, htx⟩ : ∃ tx, tx = actText x y z := ⟨_, rfl⟩
  obtain ⟨ok, hok⟩ : ∃ ok, ok = actOk x y z := ⟨_, rfl⟩
  have HI := Lib.hid (fun W (h : Tab W) => FormatAct_any x y z W h)
  have HS := Lib.hid (fun W (h : Tab W) => FormatActS_any x y z W h)
  rw [← htx, ← hok] at HI HS
  clear htx hok
  have d1 : (ok != ok) = false := by simp
  go_enter Tryd.func4, Tryd.ntmps4
  go_wp2_with fail
  first | refine name_world ?_ | refine name_wp ?_
  intro W1 hW
  replace hB : Below w.heap.size w W1 := by rw [hW]; repeat' (first | (with_reducible exact Below.refl _ _) | (with_reducible assumption) | (with_reducible refine Below.alloc ?_ ?_ _) | (with_reducible refine Below.setCell ?_ ?_ _) | (with_reducible refine Below.drew ?_) | (with_reducible refine below_drewN ?_ _) | (refine Below.trans ?_ (Below.mono (by with_reducible assumption) ?_)) | omega | (simp; done) | (simp; omega))
  have hz_W1 : w.heap.size ≤ W1.heap.size := by rw [hW]; first | (simp; done) | (simp; omega)
  replace kb_p : Blk W1 (w.heap.size) 33 #[.int .i64 x, .int .i64 y, .int .i64 z] := by rw [hW]; repeat' (first | (with_reducible assumption) | (with_reducible refine Blk.drew ?_) | (with_reducible refine Blk.drewN ?_ _) | (with_reducible refine Blk.new' _ _ _ _ ?_; (first | rfl | omega | (simp; done))) | (with_reducible exact Blk.new _ _ _) | (with_reducible refine Blk.alloc ?_ _) | (with_reducible apply Blk.set8) | (with_reducible apply Blk.set7of8) | (with_reducible apply Blk.setlast8) | (with_reducible apply Blk.set7) | (with_reducible apply Blk.set2) | (with_reducible apply Blk.set3) | (with_reducible refine Blk.far ?_ ?_ _) | (simp; done) | (simp; omega) | (dsimp only; omega))
  have hLW1_p := kb_p.lt
  try clear kc_p kf_p
  clear hW
  refine (toAct_any _ _ _ _).mono ?_
  rintro e w1 ⟨rfl, hb⟩
  replace hB := hB.trans (Below.mono hb hB.size)
  have hz_w1 : W1.heap.size ≤ w1.heap.size := Below.size hb
  replace kb_p := Blk.below kb_p hb (by first | exact kb_p.lt | (have := kb_p.lt; omega))
  have kc_p := kb_p.cells
  have kf_p := kb_p.frozens
  have hl_p := kb_p.lt
  have hn_p := Nat.ne_of_lt kb_p.lt
  clear hb
  go_wp2_with fail
  refine (HS.out _ (ht.below hB)).mono ?_
  rintro e w2 ⟨rfl, hb⟩
  replace hB := hB.trans (Below.mono hb hB.size)
  have hz_w2 : w1.heap.size ≤ w2.heap.size := Below.size hb
  replace kb_p := Blk.below kb_p hb (by first | exact kb_p.lt | (have := kb_p.lt; omega))
  have kc_p := kb_p.cells
  have kf_p := kb_p.frozens
  have hl_p := kb_p.lt
  have hn_p := Nat.ne_of_lt kb_p.lt
  clear hb
  go_wp2_with fail
  refine (toAct_any _ _ _ _).mono ?_
  rintro e w3 ⟨rfl, hb⟩
  replace hB := hB.trans (Below.mono hb hB.size)
  have hz_w3 : w2.heap.size ≤ w3.heap.size := Below.size hb
  replace kb_p := Blk.below kb_p hb (by first | exact kb_p.lt | (have := kb_p.lt; omega))
  have kc_p := kb_p.cells
  have kf_p := kb_p.frozens
  have hl_p := kb_p.lt
  have hn_p := Nat.ne_of_lt kb_p.lt
  clear hb
  go_wp2_with fail
  refine (HI.out _ (ht.below hB)).mono ?_
  rintro e w4 ⟨rfl, hb⟩
  replace hB := hB.trans (Below.mono hb hB.size)
  have hz_w4 : w3.heap.size ≤ w4.heap.size := Below.size hb
  replace kb_p := Blk.below kb_p hb (by first | exact kb_p.lt | (have := kb_p.lt; omega))
  have kc_p := kb_p.cells
  have kf_p := kb_p.frozens
  have hl_p := kb_p.lt
  have hn_p := Nat.ne_of_lt kb_p.lt
  clear hb
  go_wp2_with fail
  go_ret
  exact ⟨rfl, hB⟩
theorem tab_of_FnExactFormatAct {W : World} (h : laidMetH Tryd.prog [("math/bits.deBruijn32tab", Rows.laid_math_bits_deBruijn32tab), ("math/bits.deBruijn64tab", Rows.laid_math_bits_deBruijn64tab), ("internal/strconv.uint64pow10", Rows.laid_internal_strconv_uint64pow10)] W) : Tab W := by
  rw [MakeChecks.laidMetH_plain _ _ _ (by kernel_rfl)] at h
  exact Lib.tabIs_of_head (g := 0) (t := 67) (e := 60) (n := 20) (by kernel_rfl) (by kernel_rfl) Tryd.underlying67 Tryd.underlying60 (by kernel_rfl) (by kernel_rfl) ((h).tail).tail
theorem door_met_FnExactFormatAct (os : Os) (args : Array Value) : laidMetH Tryd.prog [("math/bits.deBruijn32tab", Rows.laid_math_bits_deBruijn32tab), ("math/bits.deBruijn64tab", Rows.laid_math_bits_deBruijn64tab), ("internal/strconv.uint64pow10", Rows.laid_internal_strconv_uint64pow10)] ((World.doorLaid Tryd.prog 24 os).forCall (fun _ _ => 0) ⟨#[], args, []⟩).memory :=
  laidMetH_of_parts3 (fuel := 8) (laidMet_of_run' 8 (by kernel_rfl) (by kernel_rfl)) (by kernel_rfl) (by kernel_rfl)
set_option maxRecDepth 100000 in
theorem lifted_FnExactFormatAct (os : Os) (started : os.Started) (H : Type) (enc : TypeId × Value → H) :
    ReturnsInHanded {} Tryd.checked os 4 .any (fun w args => (Rows.fnExactFormatActSpec.pre enc Tryd.prog Tryd.f4 [] false w args ∧ laidMetH Tryd.prog [("math/bits.deBruijn32tab", Rows.laid_math_bits_deBruijn32tab), ("math/bits.deBruijn64tab", Rows.laid_math_bits_deBruijn64tab), ("internal/strconv.uint64pow10", Rows.laid_internal_strconv_uint64pow10)] w) ∧ sizedMet enc Tryd.prog Tryd.f4 (OpenSpec.ofChange Rows.fnExactFormatActSpec) false w args) (Rows.fnExactFormatActSpec.post enc Tryd.prog Tryd.f4 false true false false) := by
  refine returnsInHanded_of_change_and (C := Tryd.checked) (X := fun w _ => laidMetH Tryd.prog [("math/bits.deBruijn32tab", Rows.laid_math_bits_deBruijn32tab), ("math/bits.deBruijn64tab", Rows.laid_math_bits_deBruijn64tab), ("internal/strconv.uint64pow10", Rows.laid_internal_strconv_uint64pow10)] w) (fun _ _ _ hh h => h.of_heap hh) own_knob started (by kernel_rfl) Tryd.func4
    (ChangeSpec.witness_shaped (enc := enc) (C := Tryd.checked) (os := os) (X := fun w _ => laidMetH Tryd.prog [("math/bits.deBruijn32tab", Rows.laid_math_bits_deBruijn32tab), ("math/bits.deBruijn64tab", Rows.laid_math_bits_deBruijn64tab), ("internal/strconv.uint64pow10", Rows.laid_internal_strconv_uint64pow10)] w) false (World.doorLaid Tryd.prog 24 os) #[.agg #[.int .i64 0, .int .i64 0, .int .i64 0]] 8 rfl (World.shaped_of_RefB (by kernel_rfl) (by kernel_rfl)) (by kernel_rfl) (by kernel_rfl) (by kernel_rfl) (door_met_FnExactFormatAct os _)) ?_
  intro W base args ds gs before hval0 hW _ _ hL _
  have ht := tab_of_FnExactFormatAct hL
  have hval : ∀ (j : Nat) t v, Tryd.f4.params[j]? = some t → args[j]? = some v → Value.okWide Tryd.prog W .any base t v := hval0
  have hW' := hW
  obtain ⟨p, q, hA0, hV, rfl, hfz, hnd⟩ := hW
  have hA : DataW.TrodAll enc Tryd.prog W 0 (fun _ => true) true Tryd.f4.params.toList args.toList ds p := hA0
  rw [Tryd.params4] at hA hval
  obtain ⟨v0, vs0, d0, ds0, p0, q0, hargs, rfl, rfl, h0, r0⟩ := trodAll_cons hA
  obtain ⟨rfl, rfl, rfl⟩ := trodAll_nil r0
  obtain rfl : args = #[v0] := by cases args; simp_all
  obtain ⟨rfl, rfl⟩ := trodVars_none hV
  obtain ⟨x0, y0, z0, rfl, hx0, hy0, hz0⟩ := arg_act (hval 0 33 v0 rfl rfl) h0
  have lt0 : ∀ x ∈ p0, x.block < W.heap.size := by obtain ⟨m, hm⟩ := h0; exact DataW.trod_lt m _ _ _ hm
  clear hA0 hval0
  refine (walk_FnExactFormatAct W ht x0 y0 z0 hx0 hy0 hz0).mono fun e W' ⟨he, bel⟩ => ?_
  subst he
  exact ⟨_, rfl, _, _, _, [], _, [], hW', trodAll_mk1 (shut_bool Tryd.underlying4 _), (trodAll_cons_mk (Below.trod laid_out (by kernel_rfl) (of_decide_eq_true (by kernel_rfl)) h0 bel lt0) trodAll_mk0), rfl, bel.frame _, fun h => by cases h⟩

theorem fnExactFormatAct_row : Rows.FnExactFormatActSaid :=
  OpenClaim.holds_of_wide 4 Tryd.f4 rfl rfl rfl rfl rfl rfl rfl ⟨rfl, rfl, rfl, rfl, rfl⟩ rfl rfl rfl rfl rfl (by kernel_rfl) Tryd.func4 (by kernel_rfl)
    (of_decide_eq_true (by kernel_rfl)) (by unfold Func.isWrapper; rw [if_neg (by decide +kernel)]; exact ⟨rfl, rfl⟩)
    (fun os started H enc _ => lifted_FnExactFormatAct os started H enc)

theorem fnExactFormatAct_holds : Rows.FnExactFormatActCardSaid :=
  Claim7.holds_tied_plain_at .later [] [.data, .data, .data] true (true, "d84116a66bfe133505ff51191f3a5cfeef669965cd607865570984413fc9af5c") false
    fnExactFormatAct_row (fun _ h => by cases h) (by kernel_rfl) (fun _ h => by cases h) fnExactFormatAct_row_tie rfl ⟨rfl, rfl⟩ (by kernel_rfl) rfl
    (fun f fn hf hfn => by
      obtain rfl : f = 4 := Option.some.inj ((show Tryd.prog.funcNamed "loop.example/g03307/laws.FnExactFormatAct" = some 4 by kernel_rfl).symm.trans hf) |>.symm
      obtain rfl : fn = Tryd.f4 := (Option.some.inj (Tryd.func4.symm.trans hfn)).symm
      exact ⟨by kernel_rfl, fun j t ht => by
        rw [Tryd.params4] at ht
        have hm : t ∈ [33] := by simpa using Array.mem_of_getElem? ht
        have hall : ([33].all fun u => !Tryd.prog.wantsStandIn u) = true := by kernel_rfl
        exact (show Tryd.prog.wantsStandIn t = false by simpa using List.all_eq_true.1 hall t hm)⟩)
    (by kernel_rfl)
end Go.Proofs.YtnedbdpcimhfgaaDoor
