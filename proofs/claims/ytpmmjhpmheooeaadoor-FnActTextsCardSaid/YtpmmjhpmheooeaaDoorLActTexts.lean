/- The law FnActTexts answers true for every code. No conditions. -/
import Derived.Test.YtpmmjhpmheooeaaDoorActDraw
import Derived.Test.YtpmmjhpmheooeaaDoorParse
import Derived.Test.YtpmmjhpmheooeaaDoorOpenBytes
import Derived.Test.YtpmmjhpmheooeaaDoorTie
import Derived.Test.YtpmmjhpmheooeaaDoorCards
import Derived.SevenTiedAt
import Derived.LaidMore
import Derived.Lay
import Derived.OpenShut
import Derived.Stop.Joined
import Derived.Stop.LaidErr
import Derived.ProofKit
import Derived.LaidLaws
import Derived.Lib.LaidTab
import Derived.Deep.DeepCutAuto
import Derived.BigRegion
namespace Go.Proofs.YtpmmjhpmheooeaaDoor
set_option linter.unusedSimpArgs false
set_option linter.unusedVariables false
open Go.ChangeShapes Go.WideShapes Go.ChangeAt Go.RowKit
set_option maxRecDepth 20000
theorem sv_spaced (b : List UInt8) : Value.string (⟨#[32, 32]⟩ ++ ⟨b.toArray⟩ ++ ⟨#[32]⟩) = sv (32 :: 32 :: (b ++ [32])) := by
  refine congrArg _ (ByteArray.ext ?_)
  simp
set_option maxHeartbeats 6400000 in
theorem walk_FnActTexts (w0 : World) (ht : Tab w0) (A0 : Option Addr) (c0 : Nat) (l0 : List Int) (h0 : RdY w0 w0.heap.size A0 c0 l0) :
    Calls Tryd.prog 4 #[.slice A0 l0.length c0] w0 fun e wi' => e = .returned (.bool true) ∧ Below w0.heap.size w0 wi' := by
  obtain ⟨hl0, hm0⟩ := h0.le
  by_cases hbig : (1048576 : Int) < l0.length
  · go_enter Tryd.func4, Tryd.ntmps4
    go_wp2_with fail
    refine (big_any A0 l0.length c0 w0 (by omega)).mono ?_
    rintro e w1 ⟨rfl, rfl⟩
    go_wp2_with fail
    go_ret
    exact ⟨rfl, Below.refl _ _⟩
  have hs : l0.length ≤ 1048576 := by omega
  have hbd : decide ((1048576 : Int) < l0.length) = false := by simpa using hbig
  go_enter Tryd.func4, Tryd.ntmps4
  go_wp2_with fail
  refine (big_any A0 l0.length c0 w0 (by omega)).mono ?_
  rintro e w1 ⟨rfl, rfl⟩
  rw [hbd]
  go_wp2_with fail
  refine (DrawActs_any A0 c0 l0 w0 h0 hs).mono ?_
  rintro e w ⟨A, c, R, d, v, B, n, acts, rfl, ⟨hv, hok, hal⟩, hr1, hr2, hr3, hB00⟩
  have HB0 := Lib.hid hB00
  have HT : Hid (Tab w) := ht.below hB00
  have HOK : Hid (∀ a ∈ acts, actOk a.x a.y a.z = true) := hok
  have HAR := Lib.hid hr3
  clear hv hok hr1 hr2 hr3 hB00
  unfold Vg.val
  have hB := Below.refl w.heap.size w
  go_wp2_with fail
  go_loopw [5] (fun i wr => ∃ (k : Nat), k ≤ acts.length ∧ i = .int .i64 k ∧ Below w.heap.size w wr) (fun i _ => acts.length - (intOf i).toNat)
  case atStart => exact ⟨0, Nat.zero_le _, rfl, by exact tacT⟩
  case round =>
    clear hB
    obtain ⟨k, hk, rfl, hB⟩ := hrel
    have hbs := hB.size
    by_cases hlt : k < acts.length
    · obtain ⟨bb, o, x, rfl, hbb, hx, e0, e1, e2⟩ := HAR.out.at_ hlt
      have f0 : wr.cell? ⟨bb, o + k * 3, none⟩ = some (.int .i64 x.x) := (hB.cell (p := ⟨bb, _, none⟩) hbb).trans e0
      have f1 : wr.cell? ⟨bb, o + k * 3 + 1, none⟩ = some (.int .i64 x.y) := (hB.cell (p := ⟨bb, _, none⟩) hbb).trans e1
      have f2 : wr.cell? ⟨bb, o + k * 3 + 2, none⟩ = some (.int .i64 x.z) := (hB.cell (p := ⟨bb, _, none⟩) hbb).trans e2
      clear e0 e1 e2
      have hlb : bb < wr.heap.size := by omega
      have hk0 : (0 : Int) ≤ (k : Int) := by omega
      have hk1 : (k : Int) < (acts.length : Int) := by omega
      have ha := HOK.out x (List.mem_of_getElem? hx)
      have HF : Hid (∀ W, Tab W → Calls Tryd.prog 12 #[.agg #[.int .i64 x.x, .int .i64 x.y, .int .i64 x.z]] W fun e w' => e = .returned (.tuple #[sv (actText x.x x.y x.z), .bool true]) ∧ Below W.heap.size W w') := fun W h => by
        have h9 := FormatAct_any x.x x.y x.z W h
        rw [ha] at h9
        exact h9
      have hsp := pa_spaced ha
      have htl := act_len50 x.x x.y x.z
      obtain ⟨tx, hte⟩ : ∃ tx, tx = actText x.x x.y x.z := ⟨_, rfl⟩
      rw [← hte] at HF hsp htl
      have HP : Hid (∀ W, Tab W → Calls Tryd.prog 8 #[sv (32 :: 32 :: (tx ++ [32]))] W fun e w' => e = .returned (.tuple #[.agg #[.int .i64 x.x, .int .i64 x.y, .int .i64 x.z], .bool true]) ∧ Below W.heap.size W w') := fun W h => by
        have h9 := ParseAct_any (32 :: 32 :: (tx ++ [32])) W h (by simp only [List.length_cons, List.length_append, List.length_nil]; omega)
        rw [hsp.1, hsp.2] at h9
        exact h9
      have HTW : Hid (∀ W, Below w.heap.size w W → Tab W) := fun W hb => HT.out.below hb
      have c1 : ¬ 9223372036854775807 < 2 + tx.length := by omega
      have c2 : ¬ 9223372036854775807 < 2 + tx.length + 1 := by omega
      have hsv := sv_spaced tx
      obtain ⟨x1, x2, x3⟩ := x
      simp only at f0 f1 f2 HF HP
      have d1 : (x1 != x1) = false := by simp
      have d2 : (x2 != x2) = false := by simp
      have d3 : (x3 != x3) = false := by simp
      clear hx ha hsp hte hbb
      go_wp2_with fail
      refine (HF.out _ (HTW.out _ hB)).mono ?_
      rintro e w2 ⟨rfl, hb⟩
      have f3 : w2.cell? ⟨bb, o + k * 3, none⟩ = some (.int .i64 x1) := (hb.cell (p := ⟨bb, _, none⟩) hlb).trans f0
      have f4 : w2.cell? ⟨bb, o + k * 3 + 1, none⟩ = some (.int .i64 x2) := (hb.cell (p := ⟨bb, _, none⟩) hlb).trans f1
      have f5 : w2.cell? ⟨bb, o + k * 3 + 2, none⟩ = some (.int .i64 x3) := (hb.cell (p := ⟨bb, _, none⟩) hlb).trans f2
      have hlb2 : bb < w2.heap.size := by have := hb.size; omega
      replace hB := hB.trans (Below.mono hb hB.size)
      have hz_w2 : wr.heap.size ≤ w2.heap.size := Below.size hb
      clear hb
      clear f0 f1 f2 HF hlb
      go_wp2_with fail
      refine (HP.out _ (HTW.out _ hB)).mono ?_
      rintro e w3 ⟨rfl, hb⟩
      have f0 : w3.cell? ⟨bb, o + k * 3, none⟩ = some (.int .i64 x1) := (hb.cell (p := ⟨bb, _, none⟩) hlb2).trans f3
      have f1 : w3.cell? ⟨bb, o + k * 3 + 1, none⟩ = some (.int .i64 x2) := (hb.cell (p := ⟨bb, _, none⟩) hlb2).trans f4
      have f2 : w3.cell? ⟨bb, o + k * 3 + 2, none⟩ = some (.int .i64 x3) := (hb.cell (p := ⟨bb, _, none⟩) hlb2).trans f5
      have hlb3 : bb < w3.heap.size := by have := hb.size; omega
      replace hB := hB.trans (Below.mono hb hB.size)
      have hz_w3 : w2.heap.size ≤ w3.heap.size := Below.size hb
      clear hb
      clear f3 f4 f5 HP
      go_upto_region 9 with fail
      first | refine name_world ?_ | refine name_wp ?_
      intro W4 hW
      have kb_a : Blk W4 w3.heap.size 23 #[.int .i64 x1, .int .i64 x2, .int .i64 x3] := by rw [hW]; exact blkT
      have hb4 : Below w3.heap.size w3 W4 := by rw [hW]; exact tacT
      have f3 : W4.cell? ⟨bb, o + k * 3, none⟩ = some (.int .i64 x1) := (hb4.cell (p := ⟨bb, _, none⟩) hlb3).trans f0
      have f4 : W4.cell? ⟨bb, o + k * 3 + 1, none⟩ = some (.int .i64 x2) := (hb4.cell (p := ⟨bb, _, none⟩) hlb3).trans f1
      have f5 : W4.cell? ⟨bb, o + k * 3 + 2, none⟩ = some (.int .i64 x3) := (hb4.cell (p := ⟨bb, _, none⟩) hlb3).trans f2
      have hB4 : Below w.heap.size w W4 := by rw [hW]; exact tacT
      have hlb4 : bb < W4.heap.size := by have := hb4.size; omega
      clear hW f0 f1 f2 hb4 hB
      have kc_a := kb_a.cells
      have hl_a := kb_a.lt
      go_quiet (fail)
      go_wp2_with fail
      go_roundw
      case rel => exact ⟨k + 1, by omega, by go_num, by have hB := hB4; repeat' (first | (with_reducible exact Below.refl _ _) | (with_reducible assumption) | (with_reducible refine Below.alloc ?_ ?_ _) | (with_reducible refine Below.setCell ?_ ?_ _) | (with_reducible refine Below.drew ?_) | (with_reducible refine below_drewN ?_ _) | (refine Below.trans ?_ (Below.mono (by with_reducible assumption) ?_)) | omega | (simp; done) | (simp; omega))⟩
      case measure => simp [intOf]; omega
    · obtain rfl : k = acts.length := by omega
      have hk1 : ¬ (acts.length : Int) < (acts.length : Int) := by omega
      go_wp2_with fail
      go_ret
      exact ⟨rfl, HB0.out.trans (hB.mono HB0.out.size)⟩
theorem tab_of_FnActTexts {W : World} (h : laidMetH Tryd.prog [("math/bits.deBruijn32tab", Rows.laid_math_bits_deBruijn32tab), ("math/bits.deBruijn64tab", Rows.laid_math_bits_deBruijn64tab), ("internal/strconv.uint64pow10", Rows.laid_internal_strconv_uint64pow10)] W) : Tab W := by
  rw [MakeChecks.laidMetH_plain _ _ _ (by kernel_rfl)] at h
  exact Lib.tabIs_of_head (g := 1) (t := 146) (e := 135) (n := 20) (by kernel_rfl) (by kernel_rfl) Tryd.underlying146 Tryd.underlying135 (by kernel_rfl) (by kernel_rfl) ((h).tail).tail
theorem door_met_FnActTexts (os : Os) (args : Array Value) : laidMetH Tryd.prog [("math/bits.deBruijn32tab", Rows.laid_math_bits_deBruijn32tab), ("math/bits.deBruijn64tab", Rows.laid_math_bits_deBruijn64tab), ("internal/strconv.uint64pow10", Rows.laid_internal_strconv_uint64pow10)] ((World.doorLaid Tryd.prog 24 os).forCall (fun _ _ => 0) ⟨#[], args, []⟩).memory :=
  laidMetH_of_parts3 (fuel := 8) (laidMet_of_run' 8 (by kernel_rfl) (by kernel_rfl)) (by kernel_rfl) (by kernel_rfl)
set_option maxRecDepth 100000 in
theorem lifted_FnActTexts (os : Os) (started : os.Started) (H : Type) (enc : TypeId × Value → H) :
    ReturnsInHanded {} Tryd.checked os 4 .any (fun w args => (Rows.fnActTextsSpec.pre enc Tryd.prog Tryd.f4 [] false w args ∧ laidMetH Tryd.prog [("math/bits.deBruijn32tab", Rows.laid_math_bits_deBruijn32tab), ("math/bits.deBruijn64tab", Rows.laid_math_bits_deBruijn64tab), ("internal/strconv.uint64pow10", Rows.laid_internal_strconv_uint64pow10)] w) ∧ sizedMet enc Tryd.prog Tryd.f4 (OpenSpec.ofChange Rows.fnActTextsSpec) false w args) (Rows.fnActTextsSpec.post enc Tryd.prog Tryd.f4 false true false false) := by
  refine returnsInHanded_of_change_and (C := Tryd.checked) (X := fun w _ => laidMetH Tryd.prog [("math/bits.deBruijn32tab", Rows.laid_math_bits_deBruijn32tab), ("math/bits.deBruijn64tab", Rows.laid_math_bits_deBruijn64tab), ("internal/strconv.uint64pow10", Rows.laid_internal_strconv_uint64pow10)] w) (fun _ _ _ hh h => h.of_heap hh) own_knob started (by kernel_rfl) Tryd.func4
    (ChangeSpec.witness_shaped (enc := enc) (C := Tryd.checked) (os := os) (X := fun w _ => laidMetH Tryd.prog [("math/bits.deBruijn32tab", Rows.laid_math_bits_deBruijn32tab), ("math/bits.deBruijn64tab", Rows.laid_math_bits_deBruijn64tab), ("internal/strconv.uint64pow10", Rows.laid_internal_strconv_uint64pow10)] w) false (World.doorLaid Tryd.prog 24 os) #[.slice none 0 0] 8 rfl (World.shaped_of_RefB (by kernel_rfl) (by kernel_rfl)) (by kernel_rfl) (by kernel_rfl) (by kernel_rfl) (door_met_FnActTexts os _)) ?_
  intro W base args ds gs before hval0 hW _ _ hL _
  have ht := tab_of_FnActTexts hL
  have hval : ∀ (j : Nat) t v, Tryd.f4.params[j]? = some t → args[j]? = some v → Value.okWide Tryd.prog W .any base t v := hval0
  have hW' := hW
  obtain ⟨p, q, hA0, hV, rfl, hfz, hnd⟩ := hW
  have hA : DataW.TrodAll enc Tryd.prog W 0 (fun _ => true) true Tryd.f4.params.toList args.toList ds p := hA0
  rw [Tryd.params4] at hA hval
  obtain ⟨v0, vs0, d0, ds0, p0, q0, hargs, rfl, rfl, h0, r0⟩ := trodAll_cons hA
  obtain ⟨rfl, rfl, rfl⟩ := trodAll_nil r0
  obtain rfl : args = #[v0] := by cases args; simp_all
  obtain ⟨rfl, rfl⟩ := trodVars_none hV
  obtain ⟨A0, c0, l0, rfl, hr0⟩ := arg_bytes (hval 0 28 v0 rfl rfl) h0
  have lt0 : ∀ x ∈ p0, x.block < W.heap.size := by obtain ⟨m, hm⟩ := h0; exact DataW.trod_lt m _ _ _ hm
  clear hA0 hval0
  refine (walk_FnActTexts W ht A0 c0 l0 hr0).mono fun e W' ⟨he, bel⟩ => ?_
  subst he
  exact ⟨_, rfl, _, _, _, [], _, [], hW', trodAll_mk1 (shut_bool Tryd.underlying4 _), (trodAll_cons_mk (Below.trod laid_out (by kernel_rfl) (of_decide_eq_true (by kernel_rfl)) h0 bel lt0) trodAll_mk0), rfl, bel.frame _, fun h => by cases h⟩

theorem fnActTexts_row : Rows.FnActTextsSaid :=
  OpenClaim.holds_of_wide 4 Tryd.f4 rfl rfl rfl rfl rfl rfl rfl ⟨rfl, rfl, rfl, rfl, rfl⟩ rfl rfl rfl rfl rfl (by kernel_rfl) Tryd.func4 (by kernel_rfl)
    (of_decide_eq_true (by kernel_rfl)) (by unfold Func.isWrapper; rw [if_neg (by decide +kernel)]; exact ⟨rfl, rfl⟩)
    (fun os started H enc _ => lifted_FnActTexts os started H enc)

theorem fnActTexts_holds : Rows.FnActTextsCardSaid :=
  Claim7.holds_tied_plain_at .later [] [.data, .data, .data] true (true, "e052a9a80911a7c98e72b18267fa447445759f646e6cd231b6fb30e0babf7d15") false
    fnActTexts_row (fun _ h => by cases h) (by kernel_rfl) (fun _ h => by cases h) fnActTexts_row_tie rfl ⟨rfl, rfl⟩ (by kernel_rfl) rfl
    (fun f fn hf hfn => by
      obtain rfl : f = 4 := Option.some.inj ((show Tryd.prog.funcNamed "loop.example/g03307/laws.FnActTexts" = some 4 by kernel_rfl).symm.trans hf) |>.symm
      obtain rfl : fn = Tryd.f4 := (Option.some.inj (Tryd.func4.symm.trans hfn)).symm
      exact ⟨by kernel_rfl, fun j t ht => by
        rw [Tryd.params4] at ht
        have hm : t ∈ [28] := by simpa using Array.mem_of_getElem? ht
        have hall : ([28].all fun u => !Tryd.prog.wantsStandIn u) = true := by kernel_rfl
        exact (show Tryd.prog.wantsStandIn t = false by simpa using List.all_eq_true.1 hall t hm)⟩)
    (by kernel_rfl)
end Go.Proofs.YtpmmjhpmheooeaaDoor
